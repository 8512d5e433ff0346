/- TopSpan: whatever the spans and keys are, the law answers true. -/
import Derived.Test.YtmjdgcgmlgbfjaaSpan2
namespace Go.Proofs.Ytmjdgcgmlgbfjaa
open Go.RowKit

theorem toOf_below (a b k : ByteArray) : below k (toOf a b) = (below k a && below k b) := by
  unfold toOf below
  cases ha : a.toList.isEmpty <;> cases hb : b.toList.isEmpty <;> simp [ha, hb]
  cases h : slt b a
  · simp only [Bool.false_eq_true, if_false, ha, Bool.false_or]
    cases k1 : slt k a
    · rfl
    · simp [slt_of_slt_of_not k1 h]
  · simp only [if_true, hb, Bool.false_or]
    cases k1 : slt k b
    · simp
    · simp [slt_trans k1 h]
theorem both_has (a b : Sp) (k : ByteArray) : (a.both b).has k = (a.has k && b.has k) := by
  unfold Sp.has Sp.both
  simp only [toOf_below]
  have : (!slt k (if slt a.lo b.lo = true then b.lo else a.lo)) = (!slt k a.lo && !slt k b.lo) := by
    cases h : slt a.lo b.lo
    · simp only [Bool.false_eq_true, if_false]
      cases k1 : slt k a.lo
      · simp [not_slt_trans k1 h]
      · simp
    · simp only [if_true]
      cases k1 : slt k b.lo
      · cases k2 : slt k a.lo
        · rfl
        · rw [slt_trans k2 h] at k1; cases k1
      · simp
  rw [this]
  cases slt k a.lo <;> cases slt k b.lo <;> cases below k a.hi <;> cases below k b.hi <;> rfl
theorem has_not_empty {a : Sp} {k : ByteArray} (h : a.has k = true) : a.empty = false := by
  unfold Sp.has at h
  unfold Sp.empty
  unfold below at *
  simp only [Bool.and_eq_true, Bool.or_eq_true, Bool.not_eq_true'] at h
  rcases h.2 with h2 | h2
  · simp [h2]
  · simp [slt_of_not_of_slt h.1 h2]
theorem toOf_comm (a b : ByteArray) : toOf a b = toOf b a := by
  unfold toOf
  cases ha : a.toList.isEmpty <;> cases hb : b.toList.isEmpty <;> simp
  · rcases slt_total a b with h | h | h
    · simp [h, slt_asymm h]
    · subst h; rfl
    · simp [h, slt_asymm h]
  · have h1 : a.toList = [] := by simpa using ha
    have h2 : b.toList = [] := by simpa using hb
    exact toList_inj (h2.trans h1.symm)
theorem both_comm (a b : Sp) : a.both b = b.both a := by
  unfold Sp.both
  rw [toOf_comm a.hi b.hi]
  rcases slt_total a.lo b.lo with h | h | h
  · simp [h, slt_asymm h]
  · simp [h]
  · simp [h, slt_asymm h]
theorem meet_comm (a b : Sp) : a.meet b = b.meet a := by
  unfold Sp.meet; rw [both_comm a b]; cases a.empty <;> cases b.empty <;> rfl
theorem meet_of_has {a b : Sp} {k : ByteArray} (h : a.has k = true) (h' : b.has k = true) : a.meet b = true := by
  unfold Sp.meet
  rw [has_not_empty h, has_not_empty h', has_not_empty (a := a.both b) (k := k) (by rw [both_has, h, h']; rfl)]; rfl
theorem point_has (k o : ByteArray) : (Sp.point k).has o = decide (o = k) := by
  unfold Sp.has Sp.point below
  have hne : (k ++ nul).toList.isEmpty = false := by rw [toList_append, nul_toList]; simp
  simp only [hne, Bool.false_or, slt_nul_iff]
  rcases slt_total o k with h | h | h
  · simp [h, slt_ne h]
  · subst h; simp [slt_irrefl]
  · simp [h, (slt_ne h).symm]
theorem point_both_empty (k : ByteArray) (a : Sp) : ((Sp.point k).both a).empty = !a.has k := by
  unfold Sp.empty Sp.both Sp.point Sp.has
  simp only [toOf_below]
  have hne : (k ++ nul).toList.isEmpty = false := by rw [toList_append, nul_toList]; simp
  cases h : slt k a.lo
  · simp only [Bool.false_eq_true, if_false, below, hne, slt_nul, Bool.false_or, Bool.true_and, Bool.not_false]
  · simp only [if_true, below, hne, slt_nul_iff, h, Bool.false_or, Bool.not_true, Bool.false_and]
theorem point_meet (k : ByteArray) (a : Sp) : (Sp.point k).meet a = (a.has k && !a.empty) := by
  unfold Sp.meet
  have h1 : (Sp.point k).empty = false := has_not_empty (k := k) (by rw [point_has]; simp)
  rw [h1, point_both_empty k a]
  cases a.empty <;> simp
theorem spansAt_two {w : World} {b : Nat} {lo hi lo' hi' : ByteArray} (h0 : w.cell? ⟨b, 0, none⟩ = some (.string lo)) (h1 : w.cell? ⟨b, 1, none⟩ = some (.string hi))
    (h2 : w.cell? ⟨b, 2, none⟩ = some (.string lo')) (h3 : w.cell? ⟨b, 3, none⟩ = some (.string hi')) : SpansAt w (some ⟨b, 0, none⟩) [⟨lo, hi⟩, ⟨lo', hi'⟩] :=
  .inr ⟨b, 0, rfl, fun i hi => match i, hi with
    | 0, _ => ⟨h0, h1⟩
    | 1, _ => ⟨h2, h3⟩⟩
set_option maxHeartbeats 2000000 in
set_option maxRecDepth 100000 in
theorem topSpan_any (lo hi lo' hi' k o : ByteArray) (w : World) :
    Calls Try.prog 6 #[.agg #[.string lo, .string hi], .agg #[.string lo', .string hi'], .string k, .string o] w fun e w' => e = .returned (.bool true) ∧ Ext w w' := by
  have e1 : Sp.has ⟨.empty, .empty⟩ ⟨#[120]⟩ = true := by simp [Sp.has, below, slt, ByteArray.toList_eq, Op.bytesLess]
  have e2 : Sp.has ⟨(Sp.point ⟨#[120]⟩).lo, (Sp.point ⟨#[120]⟩).hi⟩ ⟨#[121]⟩ = false := by simp [Sp.has, Sp.point, nul, below, slt, ByteArray.toList_eq, Op.bytesLess]
  go_enter Try.func6, Try.ntmps6
  go_wp2_with fail
  refine Calls.known w [(⟨w.heap.size, 0, none⟩, .string lo), (⟨w.heap.size, 1, none⟩, .string hi), (⟨w.heap.size + 1, 0, none⟩, .string lo'), (⟨w.heap.size + 1, 1, none⟩, .string hi')] (by repeat (first | exact Ext.refl _ | assumption | refine Ext.alloc ?_ _ | refine Ext.drew ?_ | refine Ext.trans ?_ (by assumption))) (by simp [Holds]) ?_
  intro w1 hE H
  have h := H.all; simp only [AllEq] at h
  refine (all_any _).mono ?_; (rintro e w' ⟨rfl, hx⟩; replace H := H.ext (Ext.trans (by repeat (first | exact Ext.refl _ | refine Ext.alloc ?_ _ | refine Ext.drew ?_)) hx); replace hE := hE.trans (Ext.trans (by repeat (first | exact Ext.refl _ | refine Ext.alloc ?_ _ | refine Ext.drew ?_)) hx); clear hx; replace h := H.all; simp only [AllEq] at h); simp only [Sp.v]
  go_wp2_with (first
    | (go_at_call 12; refine (has_any _ _ _ _).mono ?_; (rintro e w' ⟨rfl, hx⟩; replace H := H.ext (Ext.trans (by repeat (first | exact Ext.refl _ | refine Ext.alloc ?_ _ | refine Ext.drew ?_)) hx); replace hE := hE.trans (Ext.trans (by repeat (first | exact Ext.refl _ | refine Ext.alloc ?_ _ | refine Ext.drew ?_)) hx); clear hx; replace h := H.all; simp only [AllEq] at h))
    | (go_at_call 20; refine (point_any _ _ (by decide)).mono ?_; (rintro e w' ⟨rfl, hx⟩; replace H := H.ext (Ext.trans (by repeat (first | exact Ext.refl _ | refine Ext.alloc ?_ _ | refine Ext.drew ?_)) hx); replace hE := hE.trans (Ext.trans (by repeat (first | exact Ext.refl _ | refine Ext.alloc ?_ _ | refine Ext.drew ?_)) hx); clear hx; replace h := H.all; simp only [AllEq] at h); simp only [Sp.v]))
  refine (lightSpans_any _ _ [⟨lo, hi⟩, ⟨lo', hi'⟩] _ (by simp [maxLen]) (spansAt_two (by simp) (by simp) (by simp) (by simp))).mono ?_
  rintro e w' ⟨rfl, rfl⟩
  replace H := H.ext ((Ext.refl _).alloc (.cells #[Value.string lo, Value.string hi, Value.string lo', Value.string hi'] 23))
  replace hE := hE.trans ((Ext.refl _).alloc (.cells #[Value.string lo, Value.string hi, Value.string lo', Value.string hi'] 23))
  replace h := H.all
  simp only [AllEq] at h
  clear e1 e2
  go_wp2_with (first
    | (go_at_call 12; refine (has_any _ _ _ _).mono ?_; (rintro e w' ⟨rfl, hx⟩; replace H := H.ext (Ext.trans (by repeat (first | exact Ext.refl _ | refine Ext.alloc ?_ _ | refine Ext.drew ?_)) hx); replace hE := hE.trans (Ext.trans (by repeat (first | exact Ext.refl _ | refine Ext.alloc ?_ _ | refine Ext.drew ?_)) hx); clear hx; replace h := H.all; simp only [AllEq] at h)))
  all_goals (try (go_ret; exact ⟨rfl, (by repeat (first | exact Ext.refl _ | assumption | refine Ext.alloc ?_ _ | refine Ext.drew ?_ | refine Ext.trans ?_ (by assumption)))⟩))
  all_goals
    have g1 : Sp.has ⟨(Sp.both ⟨lo, hi⟩ ⟨lo', hi'⟩).lo, (Sp.both ⟨lo, hi⟩ ⟨lo', hi'⟩).hi⟩ k = (Sp.has ⟨lo, hi⟩ k && Sp.has ⟨lo', hi'⟩ k) := both_has ⟨lo, hi⟩ ⟨lo', hi'⟩ k
    have g2 := meet_comm ⟨lo', hi'⟩ ⟨lo, hi⟩
    have g3 : Sp.has ⟨(Sp.point k).lo, (Sp.point k).hi⟩ k = true := by rw [show (⟨(Sp.point k).lo, (Sp.point k).hi⟩ : Sp) = Sp.point k from rfl, point_has]; simp
    have g4 : Sp.has ⟨(Sp.point k).lo, (Sp.point k).hi⟩ o = decide (o = k) := by rw [show (⟨(Sp.point k).lo, (Sp.point k).hi⟩ : Sp) = Sp.point k from rfl, point_has]
    have g5 : Sp.meet ⟨(Sp.point k).lo, (Sp.point k).hi⟩ ⟨lo, hi⟩ = (Sp.has ⟨lo, hi⟩ k && !Sp.empty ⟨lo, hi⟩) := by rw [show (⟨(Sp.point k).lo, (Sp.point k).hi⟩ : Sp) = Sp.point k from rfl, point_meet]
    have hks : k.size ≤ 1000 := by omega
    clear h
  · have he : Sp.empty ⟨lo, hi⟩ = false := has_not_empty (by assumption)
    cases hb : Sp.has ⟨lo', hi'⟩ k
    · refine wp_region_ord ((.eq, 0) :: (.eq, 1) :: (.eq, 2) :: (.lt, 3) :: (.eq, 4) :: (.lt, 5) :: (.lt, 6) :: (.lt, 7) :: (.lt, 8) :: (.lt, 9) :: (.eq, 10) :: (.eq, 11) :: (.eq, 12) :: (.lt, 13) :: (.lt, 14) :: (.lt, 15) :: (.lt, 16) :: (.eq, 17) :: (.eq, 18) :: (.eq, 19) :: (.eq, 20) :: (.eq, 21) :: (.eq, 22) :: (.lt, 23) :: (.lt, 24) :: (.lt, 25) :: (.eq, 26) :: (.eq, 27) :: (.lt, 28) :: (.eq, 29) :: (.lt, 30) :: (.eq, 31) :: (.lt, 32) :: (.lt, 33) :: []) (by kernel_rfl) (by kernel_rfl) rfl (fun _ _ d _ _ h => by cases d <;> exact h) ?_
      replace H := H.ext (Ext.drew_self _)
      replace hE := hE.trans (Ext.drew_self _)
      repeat (first
        | (apply inOrd_p _ rfl rfl rfl
           · (intro w1 K hK; repeat (first | go_skip | go_guarded | go_step)
              exact hK))
        | (apply inOrd_q _ rfl
           · (intro w1 hx1 K hK
              have H := H.ext hx1
              have h := H.all
              simp only [AllEq] at h
              repeat (first | go_skip | go_guarded | go_step | (go_at_call 15; refine (both_any _ _ _ _ _).mono ?_; rintro e w2 ⟨rfl, hx2⟩; dsimp only [Sp.v]) | (go_at_call 12; refine (has_any _ _ _ _).mono ?_; rintro e w2 ⟨rfl, hx2⟩; dsimp only) | (go_at_call 17; refine (meet_any _ _ _ _ _).mono ?_; rintro e w2 ⟨rfl, hx2⟩; dsimp only) | (go_at_call 13; refine (empty_any _ _ _).mono ?_; rintro e w2 ⟨rfl, hx2⟩; dsimp only))
              first | exact (by repeat (first | exact Ext.refl _ | assumption | refine Ext.alloc ?_ _ | refine Ext.drew ?_ | refine Ext.trans ?_ (by assumption))) | exact hK _ (by repeat (first | exact Ext.refl _ | assumption | refine Ext.alloc ?_ _ | refine Ext.drew ?_ | refine Ext.trans ?_ (by assumption))))
           · exact rfl
           intro w1 hx1; replace H := H.ext hx1; replace hE := hE.trans hx1; clear hx1))
      refine inOrd_nil ?_
      go_wp2_with (first
          | (go_at_call 20; refine (point_any _ _ hks).mono ?_; rintro e w9 ⟨rfl, hx⟩; replace H := H.ext hx; replace hE := hE.trans hx; clear hx; simp only [Sp.v]))
      refine wp_known w ((⟨w9.heap.size, 0, none⟩, .string (Sp.point k).lo) :: (⟨w9.heap.size, 1, none⟩, .string (Sp.point k).hi) :: [(⟨w.heap.size, 0, none⟩, .string lo), (⟨w.heap.size, 1, none⟩, .string hi), (⟨w.heap.size + 1, 0, none⟩, .string lo'), (⟨w.heap.size + 1, 1, none⟩, .string hi')]) (hE.trans (by repeat (first | exact Ext.refl _ | refine Ext.alloc ?_ _ | refine Ext.drew ?_))) (Holds.cons (by simp) (Holds.cons (by simp) (H.ext (by repeat (first | exact Ext.refl _ | refine Ext.alloc ?_ _ | refine Ext.drew ?_))))) ?_
      clear H hE
      intro wA hE H
      by_cases hok : o = k
      · refine wp_region_ord ((.eq, 0) :: (.lt, 1) :: (.eq, 2) :: (.lt, 3) :: (.lt, 4) :: (.lt, 5) :: (.lt, 6) :: (.lt, 7) :: (.eq, 8) :: (.lt, 9) :: (.eq, 10) :: (.lt, 11) :: (.lt, 12) :: (.lt, 13) :: (.lt, 14) :: (.eq, 15) :: (.eq, 16) :: (.eq, 17) :: (.eq, 18) :: (.lt, 19) :: (.eq, 20) :: (.lt, 21) :: (.eq, 22) :: (.eq, 23) :: (.lt, 24) :: (.lt, 25) :: (.lt, 26) :: (.lt, 27) :: (.lt, 28) :: []) (by kernel_rfl) (by kernel_rfl) rfl (fun _ _ d _ _ h => by cases d <;> exact h) ?_
        replace H := H.ext (Ext.drew_self _)
        replace hE := hE.trans (Ext.drew_self _)
        repeat (first
          | (apply inOrd_p _ rfl rfl rfl
             · (intro w1 K hK; repeat (first | go_skip | go_guarded | go_step)
                exact hK))
          | (apply inOrd_q _ rfl
             · (intro w1 hx1 K hK
                have H := H.ext hx1
                have h := H.all
                simp only [AllEq] at h
                repeat (first | go_skip | go_guarded | go_step | (go_at_call 15; refine (both_any _ _ _ _ _).mono ?_; rintro e w2 ⟨rfl, hx2⟩; dsimp only [Sp.v]) | (go_at_call 12; refine (has_any _ _ _ _).mono ?_; rintro e w2 ⟨rfl, hx2⟩; dsimp only) | (go_at_call 17; refine (meet_any _ _ _ _ _).mono ?_; rintro e w2 ⟨rfl, hx2⟩; dsimp only) | (go_at_call 13; refine (empty_any _ _ _).mono ?_; rintro e w2 ⟨rfl, hx2⟩; dsimp only))
                first | exact (by repeat (first | exact Ext.refl _ | assumption | refine Ext.alloc ?_ _ | refine Ext.drew ?_ | refine Ext.trans ?_ (by assumption))) | exact hK _ (by repeat (first | exact Ext.refl _ | assumption | refine Ext.alloc ?_ _ | refine Ext.drew ?_ | refine Ext.trans ?_ (by assumption))))
             · exact rfl
             intro w1 hx1; replace H := H.ext hx1; replace hE := hE.trans hx1; clear hx1))
        refine inOrd_nil ?_
        go_wp2
        go_ret
        exact ⟨rfl, (by repeat (first | exact Ext.refl _ | assumption | refine Ext.alloc ?_ _ | refine Ext.drew ?_ | refine Ext.trans ?_ (by assumption)))⟩
      · have hok2 : (o.toList == k.toList) = false := by simpa using fun h => hok (toList_inj h)
        refine wp_region_ord ((.eq, 0) :: (.lt, 1) :: (.eq, 2) :: (.lt, 3) :: (.lt, 4) :: (.lt, 5) :: (.lt, 6) :: (.lt, 7) :: (.eq, 8) :: (.lt, 9) :: (.eq, 10) :: (.lt, 11) :: (.lt, 12) :: (.lt, 13) :: (.lt, 14) :: (.eq, 15) :: (.eq, 16) :: (.eq, 17) :: (.eq, 18) :: (.lt, 19) :: (.eq, 20) :: (.lt, 21) :: (.eq, 22) :: (.eq, 23) :: (.lt, 24) :: (.lt, 25) :: (.lt, 26) :: (.lt, 27) :: (.lt, 28) :: []) (by kernel_rfl) (by kernel_rfl) rfl (fun _ _ d _ _ h => by cases d <;> exact h) ?_
        replace H := H.ext (Ext.drew_self _)
        replace hE := hE.trans (Ext.drew_self _)
        repeat (first
          | (apply inOrd_p _ rfl rfl rfl
             · (intro w1 K hK; repeat (first | go_skip | go_guarded | go_step)
                exact hK))
          | (apply inOrd_q _ rfl
             · (intro w1 hx1 K hK
                have H := H.ext hx1
                have h := H.all
                simp only [AllEq] at h
                repeat (first | go_skip | go_guarded | go_step | (go_at_call 15; refine (both_any _ _ _ _ _).mono ?_; rintro e w2 ⟨rfl, hx2⟩; dsimp only [Sp.v]) | (go_at_call 12; refine (has_any _ _ _ _).mono ?_; rintro e w2 ⟨rfl, hx2⟩; dsimp only) | (go_at_call 17; refine (meet_any _ _ _ _ _).mono ?_; rintro e w2 ⟨rfl, hx2⟩; dsimp only) | (go_at_call 13; refine (empty_any _ _ _).mono ?_; rintro e w2 ⟨rfl, hx2⟩; dsimp only))
                first | exact (by repeat (first | exact Ext.refl _ | assumption | refine Ext.alloc ?_ _ | refine Ext.drew ?_ | refine Ext.trans ?_ (by assumption))) | exact hK _ (by repeat (first | exact Ext.refl _ | assumption | refine Ext.alloc ?_ _ | refine Ext.drew ?_ | refine Ext.trans ?_ (by assumption))))
             · exact rfl
             intro w1 hx1; replace H := H.ext hx1; replace hE := hE.trans hx1; clear hx1))
        refine inOrd_nil ?_
        go_wp2
        go_ret
        exact ⟨rfl, (by repeat (first | exact Ext.refl _ | assumption | refine Ext.alloc ?_ _ | refine Ext.drew ?_ | refine Ext.trans ?_ (by assumption)))⟩
    · have hm := meet_of_has (a := ⟨lo, hi⟩) (b := ⟨lo', hi'⟩) (k := k) (by assumption) hb
      refine wp_region_ord ((.eq, 0) :: (.eq, 1) :: (.eq, 2) :: (.lt, 3) :: (.eq, 4) :: (.lt, 5) :: (.lt, 6) :: (.lt, 7) :: (.lt, 8) :: (.lt, 9) :: (.eq, 10) :: (.eq, 11) :: (.eq, 12) :: (.lt, 13) :: (.lt, 14) :: (.lt, 15) :: (.lt, 16) :: (.eq, 17) :: (.eq, 18) :: (.eq, 19) :: (.eq, 20) :: (.eq, 21) :: (.eq, 22) :: (.lt, 23) :: (.lt, 24) :: (.lt, 25) :: (.eq, 26) :: (.eq, 27) :: (.lt, 28) :: (.eq, 29) :: (.lt, 30) :: (.eq, 31) :: (.lt, 32) :: (.lt, 33) :: []) (by kernel_rfl) (by kernel_rfl) rfl (fun _ _ d _ _ h => by cases d <;> exact h) ?_
      replace H := H.ext (Ext.drew_self _)
      replace hE := hE.trans (Ext.drew_self _)
      repeat (first
        | (apply inOrd_p _ rfl rfl rfl
           · (intro w1 K hK; repeat (first | go_skip | go_guarded | go_step)
              exact hK))
        | (apply inOrd_q _ rfl
           · (intro w1 hx1 K hK
              have H := H.ext hx1
              have h := H.all
              simp only [AllEq] at h
              repeat (first | go_skip | go_guarded | go_step | (go_at_call 15; refine (both_any _ _ _ _ _).mono ?_; rintro e w2 ⟨rfl, hx2⟩; dsimp only [Sp.v]) | (go_at_call 12; refine (has_any _ _ _ _).mono ?_; rintro e w2 ⟨rfl, hx2⟩; dsimp only) | (go_at_call 17; refine (meet_any _ _ _ _ _).mono ?_; rintro e w2 ⟨rfl, hx2⟩; dsimp only) | (go_at_call 13; refine (empty_any _ _ _).mono ?_; rintro e w2 ⟨rfl, hx2⟩; dsimp only))
              first | exact (by repeat (first | exact Ext.refl _ | assumption | refine Ext.alloc ?_ _ | refine Ext.drew ?_ | refine Ext.trans ?_ (by assumption))) | exact hK _ (by repeat (first | exact Ext.refl _ | assumption | refine Ext.alloc ?_ _ | refine Ext.drew ?_ | refine Ext.trans ?_ (by assumption))))
           · exact rfl
           intro w1 hx1; replace H := H.ext hx1; replace hE := hE.trans hx1; clear hx1))
      refine inOrd_nil ?_
      go_wp2_with (first
          | (go_at_call 20; refine (point_any _ _ hks).mono ?_; rintro e w9 ⟨rfl, hx⟩; replace H := H.ext hx; replace hE := hE.trans hx; clear hx; simp only [Sp.v]))
      refine wp_known w ((⟨w9.heap.size, 0, none⟩, .string (Sp.point k).lo) :: (⟨w9.heap.size, 1, none⟩, .string (Sp.point k).hi) :: [(⟨w.heap.size, 0, none⟩, .string lo), (⟨w.heap.size, 1, none⟩, .string hi), (⟨w.heap.size + 1, 0, none⟩, .string lo'), (⟨w.heap.size + 1, 1, none⟩, .string hi')]) (hE.trans (by repeat (first | exact Ext.refl _ | refine Ext.alloc ?_ _ | refine Ext.drew ?_))) (Holds.cons (by simp) (Holds.cons (by simp) (H.ext (by repeat (first | exact Ext.refl _ | refine Ext.alloc ?_ _ | refine Ext.drew ?_))))) ?_
      clear H hE
      intro wA hE H
      by_cases hok : o = k
      · refine wp_region_ord ((.eq, 0) :: (.lt, 1) :: (.eq, 2) :: (.lt, 3) :: (.lt, 4) :: (.lt, 5) :: (.lt, 6) :: (.lt, 7) :: (.eq, 8) :: (.lt, 9) :: (.eq, 10) :: (.lt, 11) :: (.lt, 12) :: (.lt, 13) :: (.lt, 14) :: (.eq, 15) :: (.eq, 16) :: (.eq, 17) :: (.eq, 18) :: (.lt, 19) :: (.eq, 20) :: (.lt, 21) :: (.eq, 22) :: (.eq, 23) :: (.lt, 24) :: (.lt, 25) :: (.lt, 26) :: (.lt, 27) :: (.lt, 28) :: []) (by kernel_rfl) (by kernel_rfl) rfl (fun _ _ d _ _ h => by cases d <;> exact h) ?_
        replace H := H.ext (Ext.drew_self _)
        replace hE := hE.trans (Ext.drew_self _)
        repeat (first
          | (apply inOrd_p _ rfl rfl rfl
             · (intro w1 K hK; repeat (first | go_skip | go_guarded | go_step)
                exact hK))
          | (apply inOrd_q _ rfl
             · (intro w1 hx1 K hK
                have H := H.ext hx1
                have h := H.all
                simp only [AllEq] at h
                repeat (first | go_skip | go_guarded | go_step | (go_at_call 15; refine (both_any _ _ _ _ _).mono ?_; rintro e w2 ⟨rfl, hx2⟩; dsimp only [Sp.v]) | (go_at_call 12; refine (has_any _ _ _ _).mono ?_; rintro e w2 ⟨rfl, hx2⟩; dsimp only) | (go_at_call 17; refine (meet_any _ _ _ _ _).mono ?_; rintro e w2 ⟨rfl, hx2⟩; dsimp only) | (go_at_call 13; refine (empty_any _ _ _).mono ?_; rintro e w2 ⟨rfl, hx2⟩; dsimp only))
                first | exact (by repeat (first | exact Ext.refl _ | assumption | refine Ext.alloc ?_ _ | refine Ext.drew ?_ | refine Ext.trans ?_ (by assumption))) | exact hK _ (by repeat (first | exact Ext.refl _ | assumption | refine Ext.alloc ?_ _ | refine Ext.drew ?_ | refine Ext.trans ?_ (by assumption))))
             · exact rfl
             intro w1 hx1; replace H := H.ext hx1; replace hE := hE.trans hx1; clear hx1))
        refine inOrd_nil ?_
        go_wp2
        go_ret
        exact ⟨rfl, (by repeat (first | exact Ext.refl _ | assumption | refine Ext.alloc ?_ _ | refine Ext.drew ?_ | refine Ext.trans ?_ (by assumption)))⟩
      · have hok2 : (o.toList == k.toList) = false := by simpa using fun h => hok (toList_inj h)
        refine wp_region_ord ((.eq, 0) :: (.lt, 1) :: (.eq, 2) :: (.lt, 3) :: (.lt, 4) :: (.lt, 5) :: (.lt, 6) :: (.lt, 7) :: (.eq, 8) :: (.lt, 9) :: (.eq, 10) :: (.lt, 11) :: (.lt, 12) :: (.lt, 13) :: (.lt, 14) :: (.eq, 15) :: (.eq, 16) :: (.eq, 17) :: (.eq, 18) :: (.lt, 19) :: (.eq, 20) :: (.lt, 21) :: (.eq, 22) :: (.eq, 23) :: (.lt, 24) :: (.lt, 25) :: (.lt, 26) :: (.lt, 27) :: (.lt, 28) :: []) (by kernel_rfl) (by kernel_rfl) rfl (fun _ _ d _ _ h => by cases d <;> exact h) ?_
        replace H := H.ext (Ext.drew_self _)
        replace hE := hE.trans (Ext.drew_self _)
        repeat (first
          | (apply inOrd_p _ rfl rfl rfl
             · (intro w1 K hK; repeat (first | go_skip | go_guarded | go_step)
                exact hK))
          | (apply inOrd_q _ rfl
             · (intro w1 hx1 K hK
                have H := H.ext hx1
                have h := H.all
                simp only [AllEq] at h
                repeat (first | go_skip | go_guarded | go_step | (go_at_call 15; refine (both_any _ _ _ _ _).mono ?_; rintro e w2 ⟨rfl, hx2⟩; dsimp only [Sp.v]) | (go_at_call 12; refine (has_any _ _ _ _).mono ?_; rintro e w2 ⟨rfl, hx2⟩; dsimp only) | (go_at_call 17; refine (meet_any _ _ _ _ _).mono ?_; rintro e w2 ⟨rfl, hx2⟩; dsimp only) | (go_at_call 13; refine (empty_any _ _ _).mono ?_; rintro e w2 ⟨rfl, hx2⟩; dsimp only))
                first | exact (by repeat (first | exact Ext.refl _ | assumption | refine Ext.alloc ?_ _ | refine Ext.drew ?_ | refine Ext.trans ?_ (by assumption))) | exact hK _ (by repeat (first | exact Ext.refl _ | assumption | refine Ext.alloc ?_ _ | refine Ext.drew ?_ | refine Ext.trans ?_ (by assumption))))
             · exact rfl
             intro w1 hx1; replace H := H.ext hx1; replace hE := hE.trans hx1; clear hx1))
        refine inOrd_nil ?_
        go_wp2
        go_ret
        exact ⟨rfl, (by repeat (first | exact Ext.refl _ | assumption | refine Ext.alloc ?_ _ | refine Ext.drew ?_ | refine Ext.trans ?_ (by assumption)))⟩
  · have ha : Sp.has ⟨lo, hi⟩ k = false := by simpa using ‹¬ Sp.has ⟨lo, hi⟩ k = true›
    cases he : Sp.empty ⟨lo, hi⟩
    · refine wp_region_ord ((.eq, 0) :: (.eq, 1) :: (.eq, 2) :: (.lt, 3) :: (.eq, 4) :: (.lt, 5) :: (.lt, 6) :: (.lt, 7) :: (.lt, 8) :: (.lt, 9) :: (.eq, 10) :: (.eq, 11) :: (.eq, 12) :: (.lt, 13) :: (.lt, 14) :: (.lt, 15) :: (.lt, 16) :: (.eq, 17) :: (.eq, 18) :: (.eq, 19) :: (.eq, 20) :: (.eq, 21) :: (.eq, 22) :: (.lt, 23) :: (.lt, 24) :: (.lt, 25) :: (.eq, 26) :: (.eq, 27) :: (.lt, 28) :: (.eq, 29) :: (.lt, 30) :: (.eq, 31) :: (.lt, 32) :: (.lt, 33) :: []) (by kernel_rfl) (by kernel_rfl) rfl (fun _ _ d _ _ h => by cases d <;> exact h) ?_
      replace H := H.ext (Ext.drew_self _)
      replace hE := hE.trans (Ext.drew_self _)
      repeat (first
        | (apply inOrd_p _ rfl rfl rfl
           · (intro w1 K hK; repeat (first | go_skip | go_guarded | go_step)
              exact hK))
        | (apply inOrd_q _ rfl
           · (intro w1 hx1 K hK
              have H := H.ext hx1
              have h := H.all
              simp only [AllEq] at h
              repeat (first | go_skip | go_guarded | go_step | (go_at_call 15; refine (both_any _ _ _ _ _).mono ?_; rintro e w2 ⟨rfl, hx2⟩; dsimp only [Sp.v]) | (go_at_call 12; refine (has_any _ _ _ _).mono ?_; rintro e w2 ⟨rfl, hx2⟩; dsimp only) | (go_at_call 17; refine (meet_any _ _ _ _ _).mono ?_; rintro e w2 ⟨rfl, hx2⟩; dsimp only) | (go_at_call 13; refine (empty_any _ _ _).mono ?_; rintro e w2 ⟨rfl, hx2⟩; dsimp only))
              first | exact (by repeat (first | exact Ext.refl _ | assumption | refine Ext.alloc ?_ _ | refine Ext.drew ?_ | refine Ext.trans ?_ (by assumption))) | exact hK _ (by repeat (first | exact Ext.refl _ | assumption | refine Ext.alloc ?_ _ | refine Ext.drew ?_ | refine Ext.trans ?_ (by assumption))))
           · exact rfl
           intro w1 hx1; replace H := H.ext hx1; replace hE := hE.trans hx1; clear hx1))
      refine inOrd_nil ?_
      go_wp2_with (first
          | (go_at_call 20; refine (point_any _ _ hks).mono ?_; rintro e w9 ⟨rfl, hx⟩; replace H := H.ext hx; replace hE := hE.trans hx; clear hx; simp only [Sp.v]))
      refine wp_known w ((⟨w9.heap.size, 0, none⟩, .string (Sp.point k).lo) :: (⟨w9.heap.size, 1, none⟩, .string (Sp.point k).hi) :: [(⟨w.heap.size, 0, none⟩, .string lo), (⟨w.heap.size, 1, none⟩, .string hi), (⟨w.heap.size + 1, 0, none⟩, .string lo'), (⟨w.heap.size + 1, 1, none⟩, .string hi')]) (hE.trans (by repeat (first | exact Ext.refl _ | refine Ext.alloc ?_ _ | refine Ext.drew ?_))) (Holds.cons (by simp) (Holds.cons (by simp) (H.ext (by repeat (first | exact Ext.refl _ | refine Ext.alloc ?_ _ | refine Ext.drew ?_))))) ?_
      clear H hE
      intro wA hE H
      by_cases hok : o = k
      · refine wp_region_ord ((.eq, 0) :: (.lt, 1) :: (.eq, 2) :: (.lt, 3) :: (.lt, 4) :: (.lt, 5) :: (.lt, 6) :: (.lt, 7) :: (.eq, 8) :: (.lt, 9) :: (.eq, 10) :: (.lt, 11) :: (.lt, 12) :: (.lt, 13) :: (.lt, 14) :: (.eq, 15) :: (.eq, 16) :: (.eq, 17) :: (.eq, 18) :: (.lt, 19) :: (.eq, 20) :: (.lt, 21) :: (.eq, 22) :: (.eq, 23) :: (.lt, 24) :: (.lt, 25) :: (.lt, 26) :: (.lt, 27) :: (.lt, 28) :: []) (by kernel_rfl) (by kernel_rfl) rfl (fun _ _ d _ _ h => by cases d <;> exact h) ?_
        replace H := H.ext (Ext.drew_self _)
        replace hE := hE.trans (Ext.drew_self _)
        repeat (first
          | (apply inOrd_p _ rfl rfl rfl
             · (intro w1 K hK; repeat (first | go_skip | go_guarded | go_step)
                exact hK))
          | (apply inOrd_q _ rfl
             · (intro w1 hx1 K hK
                have H := H.ext hx1
                have h := H.all
                simp only [AllEq] at h
                repeat (first | go_skip | go_guarded | go_step | (go_at_call 15; refine (both_any _ _ _ _ _).mono ?_; rintro e w2 ⟨rfl, hx2⟩; dsimp only [Sp.v]) | (go_at_call 12; refine (has_any _ _ _ _).mono ?_; rintro e w2 ⟨rfl, hx2⟩; dsimp only) | (go_at_call 17; refine (meet_any _ _ _ _ _).mono ?_; rintro e w2 ⟨rfl, hx2⟩; dsimp only) | (go_at_call 13; refine (empty_any _ _ _).mono ?_; rintro e w2 ⟨rfl, hx2⟩; dsimp only))
                first | exact (by repeat (first | exact Ext.refl _ | assumption | refine Ext.alloc ?_ _ | refine Ext.drew ?_ | refine Ext.trans ?_ (by assumption))) | exact hK _ (by repeat (first | exact Ext.refl _ | assumption | refine Ext.alloc ?_ _ | refine Ext.drew ?_ | refine Ext.trans ?_ (by assumption))))
             · exact rfl
             intro w1 hx1; replace H := H.ext hx1; replace hE := hE.trans hx1; clear hx1))
        refine inOrd_nil ?_
        go_wp2
        go_ret
        exact ⟨rfl, (by repeat (first | exact Ext.refl _ | assumption | refine Ext.alloc ?_ _ | refine Ext.drew ?_ | refine Ext.trans ?_ (by assumption)))⟩
      · have hok2 : (o.toList == k.toList) = false := by simpa using fun h => hok (toList_inj h)
        refine wp_region_ord ((.eq, 0) :: (.lt, 1) :: (.eq, 2) :: (.lt, 3) :: (.lt, 4) :: (.lt, 5) :: (.lt, 6) :: (.lt, 7) :: (.eq, 8) :: (.lt, 9) :: (.eq, 10) :: (.lt, 11) :: (.lt, 12) :: (.lt, 13) :: (.lt, 14) :: (.eq, 15) :: (.eq, 16) :: (.eq, 17) :: (.eq, 18) :: (.lt, 19) :: (.eq, 20) :: (.lt, 21) :: (.eq, 22) :: (.eq, 23) :: (.lt, 24) :: (.lt, 25) :: (.lt, 26) :: (.lt, 27) :: (.lt, 28) :: []) (by kernel_rfl) (by kernel_rfl) rfl (fun _ _ d _ _ h => by cases d <;> exact h) ?_
        replace H := H.ext (Ext.drew_self _)
        replace hE := hE.trans (Ext.drew_self _)
        repeat (first
          | (apply inOrd_p _ rfl rfl rfl
             · (intro w1 K hK; repeat (first | go_skip | go_guarded | go_step)
                exact hK))
          | (apply inOrd_q _ rfl
             · (intro w1 hx1 K hK
                have H := H.ext hx1
                have h := H.all
                simp only [AllEq] at h
                repeat (first | go_skip | go_guarded | go_step | (go_at_call 15; refine (both_any _ _ _ _ _).mono ?_; rintro e w2 ⟨rfl, hx2⟩; dsimp only [Sp.v]) | (go_at_call 12; refine (has_any _ _ _ _).mono ?_; rintro e w2 ⟨rfl, hx2⟩; dsimp only) | (go_at_call 17; refine (meet_any _ _ _ _ _).mono ?_; rintro e w2 ⟨rfl, hx2⟩; dsimp only) | (go_at_call 13; refine (empty_any _ _ _).mono ?_; rintro e w2 ⟨rfl, hx2⟩; dsimp only))
                first | exact (by repeat (first | exact Ext.refl _ | assumption | refine Ext.alloc ?_ _ | refine Ext.drew ?_ | refine Ext.trans ?_ (by assumption))) | exact hK _ (by repeat (first | exact Ext.refl _ | assumption | refine Ext.alloc ?_ _ | refine Ext.drew ?_ | refine Ext.trans ?_ (by assumption))))
             · exact rfl
             intro w1 hx1; replace H := H.ext hx1; replace hE := hE.trans hx1; clear hx1))
        refine inOrd_nil ?_
        go_wp2
        go_ret
        exact ⟨rfl, (by repeat (first | exact Ext.refl _ | assumption | refine Ext.alloc ?_ _ | refine Ext.drew ?_ | refine Ext.trans ?_ (by assumption)))⟩
    · refine wp_region_ord ((.eq, 0) :: (.eq, 1) :: (.eq, 2) :: (.lt, 3) :: (.eq, 4) :: (.lt, 5) :: (.lt, 6) :: (.lt, 7) :: (.lt, 8) :: (.lt, 9) :: (.eq, 10) :: (.eq, 11) :: (.eq, 12) :: (.lt, 13) :: (.lt, 14) :: (.lt, 15) :: (.lt, 16) :: (.eq, 17) :: (.eq, 18) :: (.eq, 19) :: (.eq, 20) :: (.eq, 21) :: (.eq, 22) :: (.lt, 23) :: (.lt, 24) :: (.lt, 25) :: (.eq, 26) :: (.eq, 27) :: (.lt, 28) :: (.eq, 29) :: (.lt, 30) :: (.eq, 31) :: (.lt, 32) :: (.lt, 33) :: []) (by kernel_rfl) (by kernel_rfl) rfl (fun _ _ d _ _ h => by cases d <;> exact h) ?_
      replace H := H.ext (Ext.drew_self _)
      replace hE := hE.trans (Ext.drew_self _)
      repeat (first
        | (apply inOrd_p _ rfl rfl rfl
           · (intro w1 K hK; repeat (first | go_skip | go_guarded | go_step)
              exact hK))
        | (apply inOrd_q _ rfl
           · (intro w1 hx1 K hK
              have H := H.ext hx1
              have h := H.all
              simp only [AllEq] at h
              repeat (first | go_skip | go_guarded | go_step | (go_at_call 15; refine (both_any _ _ _ _ _).mono ?_; rintro e w2 ⟨rfl, hx2⟩; dsimp only [Sp.v]) | (go_at_call 12; refine (has_any _ _ _ _).mono ?_; rintro e w2 ⟨rfl, hx2⟩; dsimp only) | (go_at_call 17; refine (meet_any _ _ _ _ _).mono ?_; rintro e w2 ⟨rfl, hx2⟩; dsimp only) | (go_at_call 13; refine (empty_any _ _ _).mono ?_; rintro e w2 ⟨rfl, hx2⟩; dsimp only))
              first | exact (by repeat (first | exact Ext.refl _ | assumption | refine Ext.alloc ?_ _ | refine Ext.drew ?_ | refine Ext.trans ?_ (by assumption))) | exact hK _ (by repeat (first | exact Ext.refl _ | assumption | refine Ext.alloc ?_ _ | refine Ext.drew ?_ | refine Ext.trans ?_ (by assumption))))
           · exact rfl
           intro w1 hx1; replace H := H.ext hx1; replace hE := hE.trans hx1; clear hx1))
      refine inOrd_nil ?_
      go_wp2_with (first
          | (go_at_call 20; refine (point_any _ _ hks).mono ?_; rintro e w9 ⟨rfl, hx⟩; replace H := H.ext hx; replace hE := hE.trans hx; clear hx; simp only [Sp.v]))
      refine wp_known w ((⟨w9.heap.size, 0, none⟩, .string (Sp.point k).lo) :: (⟨w9.heap.size, 1, none⟩, .string (Sp.point k).hi) :: [(⟨w.heap.size, 0, none⟩, .string lo), (⟨w.heap.size, 1, none⟩, .string hi), (⟨w.heap.size + 1, 0, none⟩, .string lo'), (⟨w.heap.size + 1, 1, none⟩, .string hi')]) (hE.trans (by repeat (first | exact Ext.refl _ | refine Ext.alloc ?_ _ | refine Ext.drew ?_))) (Holds.cons (by simp) (Holds.cons (by simp) (H.ext (by repeat (first | exact Ext.refl _ | refine Ext.alloc ?_ _ | refine Ext.drew ?_))))) ?_
      clear H hE
      intro wA hE H
      by_cases hok : o = k
      · refine wp_region_ord ((.eq, 0) :: (.lt, 1) :: (.eq, 2) :: (.lt, 3) :: (.lt, 4) :: (.lt, 5) :: (.lt, 6) :: (.lt, 7) :: (.eq, 8) :: (.lt, 9) :: (.eq, 10) :: (.lt, 11) :: (.lt, 12) :: (.lt, 13) :: (.lt, 14) :: (.eq, 15) :: (.eq, 16) :: (.eq, 17) :: (.eq, 18) :: (.lt, 19) :: (.eq, 20) :: (.lt, 21) :: (.eq, 22) :: (.eq, 23) :: (.lt, 24) :: (.lt, 25) :: (.lt, 26) :: (.lt, 27) :: (.lt, 28) :: []) (by kernel_rfl) (by kernel_rfl) rfl (fun _ _ d _ _ h => by cases d <;> exact h) ?_
        replace H := H.ext (Ext.drew_self _)
        replace hE := hE.trans (Ext.drew_self _)
        repeat (first
          | (apply inOrd_p _ rfl rfl rfl
             · (intro w1 K hK; repeat (first | go_skip | go_guarded | go_step)
                exact hK))
          | (apply inOrd_q _ rfl
             · (intro w1 hx1 K hK
                have H := H.ext hx1
                have h := H.all
                simp only [AllEq] at h
                repeat (first | go_skip | go_guarded | go_step | (go_at_call 15; refine (both_any _ _ _ _ _).mono ?_; rintro e w2 ⟨rfl, hx2⟩; dsimp only [Sp.v]) | (go_at_call 12; refine (has_any _ _ _ _).mono ?_; rintro e w2 ⟨rfl, hx2⟩; dsimp only) | (go_at_call 17; refine (meet_any _ _ _ _ _).mono ?_; rintro e w2 ⟨rfl, hx2⟩; dsimp only) | (go_at_call 13; refine (empty_any _ _ _).mono ?_; rintro e w2 ⟨rfl, hx2⟩; dsimp only))
                first | exact (by repeat (first | exact Ext.refl _ | assumption | refine Ext.alloc ?_ _ | refine Ext.drew ?_ | refine Ext.trans ?_ (by assumption))) | exact hK _ (by repeat (first | exact Ext.refl _ | assumption | refine Ext.alloc ?_ _ | refine Ext.drew ?_ | refine Ext.trans ?_ (by assumption))))
             · exact rfl
             intro w1 hx1; replace H := H.ext hx1; replace hE := hE.trans hx1; clear hx1))
        refine inOrd_nil ?_
        go_wp2
        go_ret
        exact ⟨rfl, (by repeat (first | exact Ext.refl _ | assumption | refine Ext.alloc ?_ _ | refine Ext.drew ?_ | refine Ext.trans ?_ (by assumption)))⟩
      · have hok2 : (o.toList == k.toList) = false := by simpa using fun h => hok (toList_inj h)
        refine wp_region_ord ((.eq, 0) :: (.lt, 1) :: (.eq, 2) :: (.lt, 3) :: (.lt, 4) :: (.lt, 5) :: (.lt, 6) :: (.lt, 7) :: (.eq, 8) :: (.lt, 9) :: (.eq, 10) :: (.lt, 11) :: (.lt, 12) :: (.lt, 13) :: (.lt, 14) :: (.eq, 15) :: (.eq, 16) :: (.eq, 17) :: (.eq, 18) :: (.lt, 19) :: (.eq, 20) :: (.lt, 21) :: (.eq, 22) :: (.eq, 23) :: (.lt, 24) :: (.lt, 25) :: (.lt, 26) :: (.lt, 27) :: (.lt, 28) :: []) (by kernel_rfl) (by kernel_rfl) rfl (fun _ _ d _ _ h => by cases d <;> exact h) ?_
        replace H := H.ext (Ext.drew_self _)
        replace hE := hE.trans (Ext.drew_self _)
        repeat (first
          | (apply inOrd_p _ rfl rfl rfl
             · (intro w1 K hK; repeat (first | go_skip | go_guarded | go_step)
                exact hK))
          | (apply inOrd_q _ rfl
             · (intro w1 hx1 K hK
                have H := H.ext hx1
                have h := H.all
                simp only [AllEq] at h
                repeat (first | go_skip | go_guarded | go_step | (go_at_call 15; refine (both_any _ _ _ _ _).mono ?_; rintro e w2 ⟨rfl, hx2⟩; dsimp only [Sp.v]) | (go_at_call 12; refine (has_any _ _ _ _).mono ?_; rintro e w2 ⟨rfl, hx2⟩; dsimp only) | (go_at_call 17; refine (meet_any _ _ _ _ _).mono ?_; rintro e w2 ⟨rfl, hx2⟩; dsimp only) | (go_at_call 13; refine (empty_any _ _ _).mono ?_; rintro e w2 ⟨rfl, hx2⟩; dsimp only))
                first | exact (by repeat (first | exact Ext.refl _ | assumption | refine Ext.alloc ?_ _ | refine Ext.drew ?_ | refine Ext.trans ?_ (by assumption))) | exact hK _ (by repeat (first | exact Ext.refl _ | assumption | refine Ext.alloc ?_ _ | refine Ext.drew ?_ | refine Ext.trans ?_ (by assumption))))
             · exact rfl
             intro w1 hx1; replace H := H.ext hx1; replace hE := hE.trans hx1; clear hx1))
        refine inOrd_nil ?_
        go_wp2
        go_ret
        exact ⟨rfl, (by repeat (first | exact Ext.refl _ | assumption | refine Ext.alloc ?_ _ | refine Ext.drew ?_ | refine Ext.trans ?_ (by assumption)))⟩
end Go.Proofs.Ytmjdgcgmlgbfjaa
