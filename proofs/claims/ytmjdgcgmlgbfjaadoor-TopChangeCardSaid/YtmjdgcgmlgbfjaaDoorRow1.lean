/- Package row and its reference: names. -/
import Derived.Test.YtmjdgcgmlgbfjaaDoorErr
import Derived.Test.YtmjdgcgmlgbfjaaDoorShelf
set_option linter.unusedVariables false
set_option linter.unusedSimpArgs false
namespace Go.Proofs.YtmjdgcgmlgbfjaaDoor
open Go.RowKit
/-- May the byte at i stand there? -/
def OkAt (i : Nat) (c : UInt8) : Prop := (97 ≤ c.toNat ∧ c.toNat ≤ 122) ∨ (0 < i ∧ 48 ≤ c.toNat ∧ c.toNat ≤ 57)
instance (i : Nat) (c : UInt8) : Decidable (OkAt i c) := by unfold OkAt; infer_instance
/-- May it be a name? -/
def NameOk (s : ByteArray) : Prop := 1 ≤ s.size ∧ s.size ≤ 6 ∧ ∀ i (h : i < s.size), OkAt i s[i]
instance (s : ByteArray) : Decidable (NameOk s) := by unfold NameOk; infer_instance
set_option maxHeartbeats 1000000 in
set_option maxRecDepth 100000 in
theorem name_any (s : ByteArray) (w : World) (hs : s.size ≤ 1000) : Calls Tryd.prog 13 #[.string s] w fun e w' => e = .returned (.bool (decide (NameOk s))) ∧ w' = w := by
  go_enter Tryd.func13, Tryd.ntmps13
  go_wp2
  go_loop [6] (fun i => ∃ k : Nat, k ≤ s.size ∧ i = .int .i64 k ∧ Hid (∀ i (h : i < s.size), i < k → OkAt i s[i])) (fun i => s.size - (intOf i).toNat)
  case atStart => exact ⟨0, by omega, rfl, Lib.hid (fun i _ h => by omega)⟩
  case round =>
    obtain ⟨k, hk, rfl, HK⟩ := hrel
    by_cases hlt : k < s.size
    · rcases Nat.eq_zero_or_pos k with rfl | hk0
      · go_wp2
        all_goals first
          | (go_ret; refine ⟨retB (decide_eq_false (fun hn => ?_)).symm, rfl⟩; have := hn.2.2 0 hlt; unfold OkAt at this; omega)
          | (refine ⟨⟨1, by omega, by go_num, Lib.hid (fun i hi h => ?_)⟩, by simp [intOf]; omega⟩; obtain rfl : i = 0 := by omega
             unfold OkAt; omega)
      · have hk1 : ((k : Int) == 0) = false := by simp; omega
        go_wp2
        all_goals first
          | (go_ret; refine ⟨retB (decide_eq_false (fun hn => ?_)).symm, rfl⟩; have := hn.2.2 k hlt; unfold OkAt at this; omega)
          | (refine ⟨⟨k + 1, by omega, by go_num, Lib.hid (fun i hi h => ?_)⟩, by simp [intOf]; omega⟩; rcases Nat.lt_or_ge i k with h2 | h2
             · exact HK.out i hi h2
             · obtain rfl : i = k := by omega
               unfold OkAt; omega)
    · have hall : ∀ i (h : i < s.size), OkAt i s[i] := fun i h => HK.out i h (by omega)
      have hsz : s.toList.length = s.size := by rw [ByteArray.toList_eq]; rfl
      have hN : decide (NameOk s) = (decide (1 ≤ s.size) && decide (s.size ≤ 6)) := by
        rw [Bool.eq_iff_iff, Bool.and_eq_true, decide_eq_true_eq, decide_eq_true_eq, decide_eq_true_eq]
        exact ⟨fun h => ⟨h.1, h.2.1⟩, fun h => ⟨h.1, h.2, hall⟩⟩
      clear hall
      go_wp2
      · rename_i h _
        have : s.size = 0 := by rw [← hsz, h]; rfl
        go_ret
        exact ⟨retB (by simp [this]), rfl⟩
      · rename_i h _
        have : 1 ≤ s.size := by
          rw [← hsz]
          cases hl : s.toList with
          | nil => exact absurd hl h
          | cons _ _ => simp
        go_ret
        exact ⟨retB (by rw [decide_eq_true (p := 1 ≤ s.size) this, Bool.true_and, show s.toList.isEmpty = false from by simpa using h, Bool.not_false, Bool.true_and, Bool.eq_iff_iff, decide_eq_true_eq, decide_eq_true_eq]; omega), rfl⟩
set_option maxHeartbeats 1000000 in
set_option maxRecDepth 100000 in
theorem nameMay_any (s : ByteArray) (w : World) (hs : s.size ≤ 1000) : Calls Tryd.prog 14 #[.string s] w fun e w' => e = .returned (.bool (decide (NameOk s))) ∧ w' = w := by
  by_cases hsz : 1 ≤ s.size ∧ s.size ≤ 6
  · have h0 : 0 < s.size := by omega
    by_cases hf : 97 ≤ s[0].toNat ∧ s[0].toNat ≤ 122
    · go_enter Tryd.func14, Tryd.ntmps14
      go_wp2
      all_goals (try (exfalso; omega))
      go_loop [3] (fun i => ∃ k : Nat, k ≤ s.size ∧ i = .int .i64 k ∧ Hid (∀ i (h : i < s.size), i < k → OkAt i s[i])) (fun i => s.size - (intOf i).toNat)
      case atStart => exact ⟨0, by omega, rfl, Lib.hid (fun i _ h => by omega)⟩
      case round =>
        obtain ⟨k, hk, rfl, HK⟩ := hrel
        by_cases hlt : k < s.size
        · rcases Nat.eq_zero_or_pos k with rfl | hk0
          · go_wp2
            all_goals first
              | (exfalso; omega)
              | (refine ⟨⟨1, by omega, by go_num, Lib.hid (fun i hi h => ?_)⟩, by simp [intOf]; omega⟩; obtain rfl : i = 0 := by omega
                 unfold OkAt; omega)
          · go_wp2
            all_goals (try simp only [Bool.not_eq_true', Bool.not_eq_false', decide_eq_true_eq, decide_eq_false_iff_not] at *)
            all_goals first
              | (go_ret; refine ⟨retB (decide_eq_false (fun hn => ?_)).symm, rfl⟩; have := hn.2.2 k hlt; unfold OkAt at this; omega)
              | (refine ⟨⟨k + 1, by omega, by go_num, Lib.hid (fun i hi h => ?_)⟩, by simp [intOf]; omega⟩; rcases Nat.lt_or_ge i k with h2 | h2
                 · exact HK.out i hi h2
                 · obtain rfl : i = k := by omega
                   unfold OkAt; omega)
        · go_wp2
          go_ret
          exact ⟨retB (decide_eq_true (p := NameOk s) ⟨hsz.1, hsz.2, fun i h => HK.out i h (by omega)⟩).symm, rfl⟩
    · have hN : decide (NameOk s) = false := decide_eq_false (fun hn => by have := hn.2.2 0 h0; unfold OkAt at this; omega)
      rw [hN]
      go_enter Tryd.func14, Tryd.ntmps14
      go_wp2
      all_goals (first | (exfalso; omega) | (go_ret; exact ⟨rfl, rfl⟩) | skip)
  · have hN : decide (NameOk s) = false := decide_eq_false (fun hn => hsz ⟨hn.1, hn.2.1⟩)
    rw [hN]
    go_enter Tryd.func14, Tryd.ntmps14
    go_wp2
    all_goals (first | (exfalso; omega) | (go_ret; exact ⟨rfl, rfl⟩) | skip)
/-! What stands in the library's variables. -/
/-- What a call of strconv and strings leans on. -/
structure LibOk (w : World) : Prop where
  max : ∃ m : Int, w.cell? ⟨0, 0, none⟩ = some (.int .i64 m)
  syn : ∃ t p, w.cell? ⟨1, 0, none⟩ = some (.iface t p)
  rng : ∃ t p, w.cell? ⟨2, 0, none⟩ = some (.iface t p)
  tab : Lib.TabIs Tryd.prog w "internal/strconv.uint64pow10" .u64 Lib.pow10Tab
theorem tab_up {w w' : World} {name : String} {k : IntKind} {zs : List Int} (h : Lib.TabIs Tryd.prog w name k zs) (hx : ∀ b, b < w.heap.size → w'.heap[b]? = w.heap[b]?) : Lib.TabIs Tryd.prog w' name k zs := by
  unfold Lib.TabIs World.var? at *
  cases hg : Tryd.prog.globalNamed name with
  | none => simp [hg] at h
  | some g =>
    simp only [hg, Option.bind_some] at h ⊢
    have hlt : g < w.heap.size := by
      rcases Nat.lt_or_ge g w.heap.size with h' | h'
      · exact h'
      · rw [Array.getElem?_eq_none h'] at h; simp at h
    rw [hx g hlt]
    exact h
theorem LibOk.ext {w w' : World} (h : LibOk w) (hx : Ext w w') : LibOk w' :=
  ⟨h.max.imp fun _ h => hx.some h, h.syn.imp fun _ h => h.imp fun _ h => hx.some h, h.rng.imp fun _ h => h.imp fun _ h => hx.some h, tab_up h.tab hx.block⟩
theorem ext_grow (w : World) (k : Nat) (os : Array Obj) : Ext w (Go.Sort.grow (w.drewN k) os) :=
  ⟨rfl, rfl, rfl, by simp [Go.Sort.grow], fun b hb => by
    show (w.heap ++ os)[b]? = _
    rw [Array.getElem?_append_left hb]⟩
theorem ext_drewN (w : World) (k : Nat) : Ext w (w.drewN k) := ⟨rfl, rfl, rfl, Nat.le_refl _, fun _ _ => rfl⟩
def itoaB (n : Int) : ByteArray := ⟨(Lib.itoa n).toArray⟩
theorem itoa_any (n : Int) (w : World) (h : LibOk w) (h0 : -9223372036854775808 ≤ n) (h1 : n ≤ 9223372036854775807) : Calls Tryd.prog 45 #[.int .i64 n] w fun e w' => e = .returned (.string (itoaB n)) ∧ Ext w w' :=
  (Tryd.strconv_Itoa n h0 h1 w h.tab).mono fun e w' ⟨he, k, os, hw⟩ => ⟨he, hw ▸ ext_grow w k os⟩
def cutB (s sep : ByteArray) : ByteArray × ByteArray × Bool := (⟨(Lib.cut s.data.toList sep.data.toList).1.toArray⟩, ⟨(Lib.cut s.data.toList sep.data.toList).2.1.toArray⟩, (Lib.cut s.data.toList sep.data.toList).2.2)
theorem cut_any (s sep : ByteArray) (w : World) (h : LibOk w) (hs : s.size < 4294967281) : Calls Tryd.prog 48 #[.string s, .string sep] w fun e w' => e = .returned (.tuple #[.string (cutB s sep).1, .string (cutB s sep).2.1, .bool (cutB s sep).2.2]) ∧ Ext w w' := by
  obtain ⟨m, hm⟩ := h.max
  exact (Tryd.strings_Cut s sep m w hs hm).mono fun e w' ⟨he, n, hw⟩ => ⟨he, hw ▸ ext_drewN w n⟩
/-- How Atoi ends. -/
def atoiV (s : ByteArray) : Option Int := match Lib.atoiAll s.data.toList with | .ok v => some v | _ => none
theorem atoi_ok (s : ByteArray) (v : Int) (w : World) (hs : s.size ≤ 1000) (hv : atoiV s = some v) : Calls Tryd.prog 49 #[.string s] w fun e w' => e = .returned (.tuple #[.int .i64 v, .nilIface]) ∧ Ext w w' := by
  have h : Lib.atoiAll s.data.toList = .ok v := by
    unfold atoiV at hv; split at hv
    · cases hv; assumption
    · cases hv
  refine (Tryd.strconv_Atoi_ok s (by omega) v h w).mono fun e w' ⟨he, hw⟩ => ⟨he, ?_⟩
  rcases hw with rfl | ⟨t, rfl⟩
  · exact Ext.refl _
  · exact Lib.bytesWorld_below w _ t
theorem atoi_no (s : ByteArray) (w : World) (h : LibOk w) (hs : s.size ≤ 1000) (hv : atoiV s = none) : Calls Tryd.prog 49 #[.string s] w fun e w' => (∃ x N, e = .returned (.tuple #[.int .i64 x, .iface 108 (.pointer (some ⟨N, 0, none⟩))])) ∧ Ext w w' := by
  rcases hr : Lib.atoiAll s.data.toList with v | _ | _
  · unfold atoiV at hv; rw [hr] at hv; cases hv
  · obtain ⟨t, p, hc⟩ := h.syn
    exact (Tryd.strconv_Atoi_syntax s (by omega) hr _ w hc (.inr ⟨t, p, rfl⟩)).mono fun e w' ⟨N, he, _, _, hb⟩ => ⟨⟨_, N, he⟩, hb⟩
  · obtain ⟨t, p, hc⟩ := h.rng
    exact (Tryd.strconv_Atoi_range s (by omega) hr _ w hc (.inr ⟨t, p, rfl⟩)).mono fun e w' ⟨N, he, _, _, hb⟩ => ⟨⟨_, N, he⟩, hb⟩
end Go.Proofs.YtmjdgcgmlgbfjaaDoor
