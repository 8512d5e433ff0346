/- SpanSays: whatever the spans and the key are, the law answers true. -/
import Derived.Test.YtmjdgcgmlgbfjaaSpan2
import Derived.Test.YtmjdgcgmlgbfjaaTopSpan
import Derived.Lib.Hide
namespace Go.Proofs.Ytmjdgcgmlgbfjaa
open Go.RowKit

theorem str_beq_self (a : ByteArray) : (a.toList == a.toList) = true := by simp
set_option maxHeartbeats 1000000 in
theorem spans_any (w : World) :
    Calls Try.prog 9 #[] w fun e w' => e = .returned (.bool true) ∧ Ext w w' := by
  have e1 : Sp.has ⟨⟨#[97]⟩, ⟨#[99]⟩⟩ ⟨#[98]⟩ = true := by simp [Sp.has, below, slt, ByteArray.toList_eq, Op.bytesLess]
  have e2 : (Sp.point ⟨#[97]⟩).lo = ⟨#[97]⟩ := rfl
  have e3 : (Sp.point ⟨#[97]⟩).hi = ⟨#[97, 0]⟩ := rfl
  go_enter Try.func9, Try.ntmps9
  go_wp2_with (first
    | (go_at_call 12; refine (has_any _ _ _ _).mono ?_; rintro e w' ⟨rfl, hx⟩; dsimp only)
    | (go_at_call 20; refine (point_any _ _ (by decide)).mono ?_; rintro e w' ⟨rfl, hx⟩; simp only [Sp.v, e2, e3])
    | (go_at_call 42; refine (all_any _).mono ?_; rintro e w' ⟨rfl, hx⟩; simp only [Sp.v]))
  go_ret
  exact ⟨rfl, (by repeat (first | exact Ext.refl _ | assumption | refine Ext.alloc ?_ _ | refine Ext.drew ?_ | refine Ext.trans ?_ (by assumption)))⟩

def anyHas (l : List Sp) (k : ByteArray) : Bool := l.any fun s => s.has k
theorem anyHas_snoc (l : List Sp) (k : ByteArray) (j : Nat) (h : j < l.length) : anyHas (l.take (j + 1)) k = (anyHas (l.take j) k || l[j].has k) := any_take_snoc _ _ _ h
set_option maxHeartbeats 2000000 in
set_option maxRecDepth 100000 in
theorem spanSays_any (lo hi lo' hi' k : ByteArray) (a : Option Addr) (cap : Nat) (l : List Sp) (w : World) (hl : l.length ≤ maxLen) (hs : SpansAt w a l) :
    Calls Try.prog 3 #[.agg #[.string lo, .string hi], .agg #[.string lo', .string hi'], .slice a l.length cap, .string k] w fun e w' => e = .returned (.bool true) ∧ Ext w w' := by
  go_enter Try.func3, Try.ntmps3
  go_wp2_with fail
  refine Calls.known w [(⟨w.heap.size, 0, none⟩, .string lo), (⟨w.heap.size, 1, none⟩, .string hi), (⟨w.heap.size + 1, 0, none⟩, .string lo'), (⟨w.heap.size + 1, 1, none⟩, .string hi')] (by repeat (first | exact Ext.refl _ | assumption | refine Ext.alloc ?_ _ | refine Ext.drew ?_ | refine Ext.trans ?_ (by assumption))) (by simp [Holds]) ?_
  intro w1 hE H
  have h := H.all; simp only [AllEq] at h
  refine (spans_any _).mono ?_; (rintro e w' ⟨rfl, hx⟩; replace H := H.ext (Ext.trans (by repeat (first | exact Ext.refl _ | refine Ext.alloc ?_ _ | refine Ext.drew ?_)) hx); replace hE := hE.trans (Ext.trans (by repeat (first | exact Ext.refl _ | refine Ext.alloc ?_ _ | refine Ext.drew ?_)) hx); clear hx; replace h := H.all; simp only [AllEq] at h)
  go_wp2_with fail
  refine (lightSpans_any _ _ [⟨lo, hi⟩, ⟨lo', hi'⟩] _ (by simp [maxLen]) (spansAt_two (by simp) (by simp) (by simp) (by simp))).mono ?_
  rintro e w' ⟨rfl, rfl⟩
  replace H := H.ext ((Ext.refl _).alloc (.cells #[Value.string lo, Value.string hi, Value.string lo', Value.string hi'] 23))
  replace hE := hE.trans ((Ext.refl _).alloc (.cells #[Value.string lo, Value.string hi, Value.string lo', Value.string hi'] 23))
  replace h := H.all
  simp only [AllEq] at h
  have hs1 := hs.ext hE
  go_wp2_with (first
    | (go_at_call 10; refine (lightSpans_any _ _ l _ hl hs1).mono ?_; rintro e w' ⟨rfl, rfl⟩; dsimp only))
  all_goals (try (go_ret; exact ⟨rfl, (by repeat (first | exact Ext.refl _ | assumption | refine Ext.alloc ?_ _ | refine Ext.drew ?_ | refine Ext.trans ?_ (by assumption)))⟩))
  have hks : k.size ≤ 1000 := by omega
  have hl50 : l.length ≤ 50 := by
    have := ‹lightSpans l = true›
    simp only [lightSpans, Bool.and_eq_true, decide_eq_true_eq] at this
    exact this.1
  clear h
  go_loopw [10, 11] (fun an i wr => ∃ j : Nat, j ≤ l.length ∧ i = .int .i64 j ∧ an = .bool (anyHas (l.take j) k) ∧ Ext w wr ∧ Holds wr [(⟨w.heap.size, 0, none⟩, .string lo), (⟨w.heap.size, 1, none⟩, .string hi), (⟨w.heap.size + 1, 0, none⟩, .string lo'), (⟨w.heap.size + 1, 1, none⟩, .string hi')]) (fun _ i _ => l.length - (intOf i).toNat)
  case atStart => exact ⟨0, by omega, rfl, rfl, hE, H⟩
  case round =>
    obtain ⟨j, hj, rfl, rfl, hE, H⟩ := hrel
    by_cases hlt : j < l.length
    · have hs2 := hs.ext hE
      rcases hs2 with rfl | ⟨b, off, rfl, hc⟩
      · simp at hlt
      obtain ⟨h1, h2⟩ := hc j hlt
      clear hc
      have HT := Lib.hid (anyHas_snoc l k j hlt)
      cases hb : anyHas (l.take j) k
      all_goals
        have HB := Lib.hid hb
        go_wp2_with (first
          | (go_at_call 11; refine (rhas_any _ _ _ _).mono ?_; rintro e w' ⟨rfl, hx⟩; replace H := H.ext hx; replace hE := hE.trans hx; dsimp only))
        exact ⟨⟨j + 1, by omega, by go_num, by rw [HT.out, HB.out]; rfl, hE, H⟩, by simp [intOf]; omega⟩
    · have hjl : j = l.length := by omega
      subst hjl
      rw [List.take_length]
      have hs2 := hs.ext hE
      have g3 : (Sp.point k).lo = k := rfl
      have g4 : (Sp.point k).hi = k ++ ⟨#[0]⟩ := rfl
      go_wp2_with fail
      refine wp_region_ord ((.eq, 0) :: (.lt, 1) :: (.eq, 2) :: (.eq, 3) :: (.lt, 4) :: (.eq, 5) :: (.lt, 6) :: (.lt, 7) :: (.eq, 8) :: (.eq, 9) :: (.eq, 10) :: (.eq, 11) :: (.lt, 12) :: (.lt, 13) :: (.lt, 14) :: (.eq, 15) :: (.eq, 16) :: (.eq, 17) :: (.eq, 18) :: (.eq, 19) :: (.eq, 20) :: (.lt, 21) :: (.lt, 22) :: (.lt, 23) :: (.eq, 24) :: (.eq, 25) :: (.eq, 26) :: (.eq, 27) :: (.eq, 28) :: (.eq, 29) :: (.lt, 30) :: (.lt, 31) :: (.lt, 32) :: (.lt, 33) :: (.lt, 34) :: (.eq, 35) :: (.lt, 36) :: (.lt, 37) :: (.lt, 38) :: (.lt, 39) :: (.lt, 40) :: (.eq, 41) :: (.lt, 42) :: (.lt, 43) :: (.lt, 44) :: (.lt, 45) :: (.lt, 46) :: (.lt, 47) :: (.lt, 48) :: []) (by kernel_rfl) (by kernel_rfl) rfl (fun _ _ d _ _ h => by cases d <;> exact h) ?_
      replace H := H.ext (Ext.drew_self _)
      replace hE := hE.trans (Ext.drew_self _)
      repeat (first
        | (apply inOrd_p _ rfl rfl rfl
           · (intro w1 K hK; repeat (first | go_skip | go_guarded | go_step)
              exact hK))
        | (apply inOrd_q _ rfl
           · (intro w1 hx1 K hK
              have H := H.ext hx1
              have h := H.all
              simp only [AllEq] at h
              have hs3 := hs.ext (hE.trans hx1)
              repeat (first
                | go_skip
                | go_guarded
                | go_step
                | (go_at_call 12; refine (has_any _ _ _ _).mono ?_; rintro e w2 ⟨rfl, hx2⟩; dsimp only)
                | (go_at_call 11; refine (rhas_any _ _ _ _).mono ?_; rintro e w2 ⟨rfl, hx2⟩; dsimp only)
                | (go_at_call 13; refine (empty_any _ _ _).mono ?_; rintro e w2 ⟨rfl, hx2⟩; dsimp only)
                | (go_at_call 14; refine (rempty_any _ _ _).mono ?_; rintro e w2 ⟨rfl, hx2⟩; dsimp only)
                | (go_at_call 15; refine (both_any _ _ _ _ _).mono ?_; rintro e w2 ⟨rfl, hx2⟩; dsimp only [Sp.v])
                | (go_at_call 16; refine (rboth_any _ _ _ _ _).mono ?_; rintro e w2 ⟨rfl, hx2⟩; dsimp only [Sp.v])
                | (go_at_call 17; refine (meet_any _ _ _ _ _).mono ?_; rintro e w2 ⟨rfl, hx2⟩; dsimp only)
                | (go_at_call 18; refine (rmeet_any _ _ _ _ _).mono ?_; rintro e w2 ⟨rfl, hx2⟩; dsimp only)
                | (go_at_call 19; refine (any_any _ _ l _ _ hl hs3).mono ?_; rintro e w2 ⟨rfl, hx2⟩; dsimp only [anyHas])
                | (go_at_call 20; refine (point_any _ _ hks).mono ?_; rintro e w2 ⟨rfl, hx2⟩; dsimp only [Sp.v]; rw [g3, g4]))
              first | exact (by repeat (first | exact Ext.refl _ | assumption | refine Ext.alloc ?_ _ | refine Ext.drew ?_ | refine Ext.trans ?_ (by assumption))) | exact hK _ (by repeat (first | exact Ext.refl _ | assumption | refine Ext.alloc ?_ _ | refine Ext.drew ?_ | refine Ext.trans ?_ (by assumption))))
           · exact rfl
           intro w1 hx1; replace H := H.ext hx1; replace hE := hE.trans hx1; clear hx1))
      refine inOrd_nil ?_
      go_wp2
      go_ret
      exact ⟨rfl, (by repeat (first | exact Ext.refl _ | assumption | refine Ext.alloc ?_ _ | refine Ext.drew ?_ | refine Ext.trans ?_ (by assumption)))⟩
end Go.Proofs.Ytmjdgcgmlgbfjaa
