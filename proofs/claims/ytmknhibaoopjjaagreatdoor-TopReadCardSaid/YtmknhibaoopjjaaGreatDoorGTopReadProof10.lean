/- Texts Span2 of this claim, laid together. -/
import Derived.Test.YtmknhibaoopjjaaGreatDoorGTopReadProof9
import Derived.Lib.Hide
namespace Go.Proofs.YtmknhibaoopjjaaGreatDoor
open Go.RowKit
/-- A slice of n rows of cells, from an address on. -/
def SpansAt (w : World) (a : Option Addr) (l : List Sp) : Prop :=
  l = [] ∨ ∃ b off, a = some ⟨b, off, none⟩ ∧ ∀ i (h : i < l.length), w.cell? ⟨b, off + i * 2, none⟩ = some (.string l[i].lo) ∧ w.cell? ⟨b, off + i * 2 + 1, none⟩ = some (.string l[i].hi)
theorem SpansAt.ext {w w' : World} {a : Option Addr} {l : List Sp} (h : SpansAt w a l) (hx : Ext w w') : SpansAt w' a l :=
  h.imp id fun ⟨b, off, ha, hc⟩ => ⟨b, off, ha, fun i hi => ⟨hx.some (hc i hi).1, hx.some (hc i hi).2⟩⟩
def lightSpans (l : List Sp) : Bool := decide (l.length ≤ 50) && l.all fun s => decide (s.lo.size ≤ 60) && decide (s.hi.size ≤ 60)

theorem lightSpans_many {l : List Sp} (h : 50 < (l.length : Int)) : lightSpans l = false := by
  have : ¬ l.length ≤ 50 := by omega
  simp [lightSpans, this]
def lightSpan (s : Sp) : Bool := decide (s.lo.size ≤ 60) && decide (s.hi.size ≤ 60)
theorem lightSpans_eq {l : List Sp} (h : (l.length : Int) ≤ 50) : lightSpans l = l.all lightSpan := by
  have : l.length ≤ 50 := by omega
  simp [lightSpans, this]; rfl
theorem lightSpan_no {s : Sp} (h : 60 < (s.lo.size : Int) ∨ 60 < (s.hi.size : Int)) : lightSpan s = false := by
  simp [lightSpan]; omega
theorem lightSpan_yes {s : Sp} (h : (s.lo.size : Int) ≤ 60 ∧ (s.hi.size : Int) ≤ 60) : lightSpan s = true := by
  simp [lightSpan]; omega
set_option maxHeartbeats 400000 in
theorem lightSpans_any (a : Option Addr) (cap : Nat) (l : List Sp) (w : World) (hl : l.length ≤ maxLen) (hs : SpansAt w a l) :
    Calls Tryz.prog 45 #[.slice a l.length cap] w fun e w' => e = .returned (.bool (lightSpans l)) ∧ w' = w := by
  unfold maxLen at hl
  go_enter Tryz.func45, Tryz.ntmps45
  go_wp2
  · go_ret
    exact ⟨ret_bool (lightSpans_many (by assumption)).symm, rfl⟩
  · have h50 : (l.length : Int) ≤ 50 := by omega
    go_loop [3] (fun i => ∃ k : Nat, k ≤ l.length ∧ i = .int .i64 k ∧ (l.take k).all lightSpan = true) (fun i => l.length - (intOf i).toNat)
    case atStart => exact ⟨0, by omega, rfl, by simp⟩
    case round =>
      obtain ⟨k, hk, rfl, hall⟩ := hrel
      have HA := Lib.hid hall
      clear hall
      by_cases hlt : k < l.length
      · rcases hs with rfl | ⟨b, off, rfl, hc⟩
        · simp at hlt
        obtain ⟨h1, h2⟩ := hc k hlt
        clear hc
        go_wp2
        · go_ret
          exact ⟨ret_bool ((lightSpans_eq h50).trans (all_false_at _ _ k hlt (lightSpan_no (by assumption)))).symm, rfl⟩
        · exact ⟨⟨k + 1, by omega, by go_num, by rw [all_take_snoc _ _ _ hlt, HA.out, lightSpan_yes (by assumption)]; rfl⟩, by simp [intOf]; omega⟩
        · go_ret
          exact ⟨ret_bool ((lightSpans_eq h50).trans (all_false_at _ _ k hlt (lightSpan_no (.inl (by assumption))))).symm, rfl⟩
      · go_wp2
        go_ret
        exact ⟨ret_bool ((lightSpans_eq h50).trans (all_of_take (by omega) HA.out)).symm, rfl⟩

set_option maxHeartbeats 400000 in
theorem any1_any (lo hi k : ByteArray) (c : Addr) (w : World) (hc : w.cell? c = some (.string k)) :
    Calls Tryz.prog 121 #[.agg #[.string lo, .string hi], .pointer (some c)] w fun e w' => e = .returned (.bool (Sp.has ⟨lo, hi⟩ k)) ∧ Ext w w' := by
  go_enter Tryz.func121, Tryz.ntmps121
  have hc2 := ((Ext.refl w).alloc (.cells #[.string lo, .string hi] 49)).some hc
  go_wp2_with (go_at_call 69; refine (has_any _ _ _ _).mono ?_; rintro e w' ⟨rfl, hx⟩)
  go_ret
  exact ⟨rfl, ((Ext.refl _).alloc _).trans hx⟩

set_option maxHeartbeats 400000 in
theorem indexFunc_any (a : Option Addr) (cap : Nat) (l : List Sp) (k : ByteArray) (c : Addr) (w : World) (hl : l.length ≤ maxLen) (hs : SpansAt w a l) (hc : w.cell? c = some (.string k)) :
    Calls Tryz.prog 180 #[.slice a l.length cap, .func (.func 121) #[] #[.pointer (some c)]] w
      fun e w' => (∃ n : Int, e = .returned (.int .i64 n) ∧ decide (0 ≤ n) = l.any (fun s => s.has k)) ∧ Ext w w' := by
  unfold maxLen at hl
  go_enter Tryz.func180, Tryz.ntmps180
  go_wp2
  go_loopw [8] (fun i wr => ∃ j : Nat, j ≤ l.length ∧ i = .int .i64 j ∧ (l.take j).any (fun s => s.has k) = false ∧ Ext w wr) (fun i _ => l.length - (intOf i).toNat)
  case atStart => exact ⟨0, by omega, rfl, by simp, Ext.refl _⟩
  case round =>
    obtain ⟨j, hj, rfl, hall, hx⟩ := hrel
    have HA := Lib.hid hall
    clear hall
    have hc' := hx.some hc
    by_cases hlt : j < l.length
    · rcases hs with rfl | ⟨b, off, rfl, hs⟩
      · simp at hlt
      obtain ⟨h1, h2⟩ := hs j hlt
      have h1' := hx.some h1
      have h2' := hx.some h2
      clear hs h1 h2 hc
      go_wp2_with (go_at_call 121; refine (any1_any _ _ k _ _ (by assumption)).mono ?_; rintro e w' ⟨rfl, hx'⟩)
      · go_ret
        exact ⟨⟨j, rfl, by rw [any_true_at _ _ j hlt (by assumption)]; simp⟩, by repeat (first | assumption | exact Ext.refl _ | refine Ext.trans ?_ (by assumption))⟩
      · exact ⟨⟨j + 1, by omega, by go_num, by rw [any_take_snoc _ _ _ hlt, HA.out]; simpa using ‹_›, hx.trans hx'⟩, by simp [intOf]; omega⟩
    · go_wp2
      go_ret
      exact ⟨⟨-1, rfl, by rw [← List.take_of_length_le (Nat.le_of_not_lt hlt), HA.out]; rfl⟩, hx⟩

set_option maxHeartbeats 400000 in
theorem containsFunc_any (a : Option Addr) (cap : Nat) (l : List Sp) (k : ByteArray) (c : Addr) (w : World) (hl : l.length ≤ maxLen) (hs : SpansAt w a l) (hc : w.cell? c = some (.string k)) :
    Calls Tryz.prog 120 #[.slice a l.length cap, .func (.func 121) #[] #[.pointer (some c)]] w
      fun e w' => e = .returned (.bool (l.any (fun s => s.has k))) ∧ Ext w w' := by
  go_enter Tryz.func120, Tryz.ntmps120
  go_wp2_with (go_at_call 180; refine (indexFunc_any _ _ _ k _ _ hl hs hc).mono ?_; rintro e w' ⟨⟨n, rfl, hn⟩, hx⟩)
  go_ret
  exact ⟨rfl, hx⟩

set_option maxHeartbeats 400000 in
theorem any_any (a : Option Addr) (cap : Nat) (l : List Sp) (k : ByteArray) (w : World) (hl : l.length ≤ maxLen) (hs : SpansAt w a l) :
    Calls Tryz.prog 43 #[.slice a l.length cap, .string k] w fun e w' => e = .returned (.bool (l.any (fun s => s.has k))) ∧ Ext w w' := by
  have hs' : SpansAt (w.alloc (.cells #[.string k] 9)) a l := hs.ext ((Ext.refl w).alloc _)
  go_enter Tryz.func43, Tryz.ntmps43
  go_wp2_with (go_at_call 120; refine (containsFunc_any _ _ _ k _ _ hl hs' (by simp)).mono ?_; rintro e w' ⟨rfl, hx⟩)
  go_ret
  exact ⟨rfl, ((Ext.refl _).alloc _).trans hx⟩

/- the reference -/
set_option maxHeartbeats 400000 in
theorem rhas_any (lo hi k : ByteArray) (w : World) :
    Calls Tryz.prog 143 #[.agg #[.string lo, .string hi], .string k] w fun e w' => e = .returned (.bool (Sp.has ⟨lo, hi⟩ k)) ∧ Ext w w' := by
  go_enter Tryz.func143, Tryz.ntmps143
  go_wp2
  all_goals
    go_ret
    refine ⟨ret_bool ?_, (by repeat (first | exact Ext.refl _ | assumption | refine Ext.of_drew ?_ | refine Ext.alloc ?_ _ | refine Ext.drew ?_ | refine Ext.trans ?_ (by assumption)))⟩
    simp only [Sp.has, below, ble_iff, ble_eq] at *
    simp_all [slt]
set_option maxHeartbeats 1000000 in
theorem rboth_any (lo hi lo' hi' : ByteArray) (w : World) :
    Calls Tryz.prog 78 #[.agg #[.string lo, .string hi], .agg #[.string lo', .string hi']] w fun e w' => e = .returned (Sp.both ⟨lo, hi⟩ ⟨lo', hi'⟩).v ∧ Ext w w' := by
  go_enter Tryz.func78, Tryz.ntmps78
  go_wp2
  all_goals
    refine bodyPost_run rfl fun K hK => ?_
    simp [results, Tryz.results78, go_sem]
    refine hK _ ⟨congrArg Ending.returned ?_, (by repeat (first | exact Ext.refl _ | assumption | refine Ext.of_drew ?_ | refine Ext.alloc ?_ _ | refine Ext.drew ?_ | refine Ext.trans ?_ (by assumption)))⟩
    clear hK K
    have t1 := bl_total lo.toList lo'.toList
    have t2 := bl_asymm lo.toList lo'.toList
    simp only [Sp.both, Sp.v, toOf, slt]
    grind
end Go.Proofs.YtmknhibaoopjjaaGreatDoor
