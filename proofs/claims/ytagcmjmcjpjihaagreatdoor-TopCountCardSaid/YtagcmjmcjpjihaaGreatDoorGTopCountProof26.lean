/- Texts Row1, Row2, Row3, KeyLaw, Words, Nat of this claim, laid together. -/
import Derived.Test.YtagcmjmcjpjihaaGreatDoorGTopCountProof11
import Derived.Test.YtagcmjmcjpjihaaGreatDoorGTopCountProof25
import Derived.Test.YtagcmjmcjpjihaaGreatDoorGTopCountProof1
import Derived.Test.YtagcmjmcjpjihaaGreatDoorGTopCountProof8
set_option linter.unusedVariables false
set_option linter.unusedSimpArgs false
namespace Go.Proofs.YtagcmjmcjpjihaaGreatDoor
open Go.RowKit
/-- May the byte at i stand there? -/
def OkAt (i : Nat) (c : UInt8) : Prop := (97 ≤ c.toNat ∧ c.toNat ≤ 122) ∨ (0 < i ∧ 48 ≤ c.toNat ∧ c.toNat ≤ 57)
instance (i : Nat) (c : UInt8) : Decidable (OkAt i c) := by unfold OkAt; infer_instance
/-- May it be a name? -/
def NameOk (s : ByteArray) : Prop := 1 ≤ s.size ∧ s.size ≤ 6 ∧ ∀ i (h : i < s.size), OkAt i s[i]
instance (s : ByteArray) : Decidable (NameOk s) := by unfold NameOk; infer_instance
set_option maxHeartbeats 1000000 in
set_option maxRecDepth 100000 in
theorem name_any (s : ByteArray) (w : World) (hs : s.size ≤ 4000000000) : Calls Tryz.prog 173 #[.string s] w fun e w' => e = .returned (.bool (decide (NameOk s))) ∧ w' = w := by
  go_enter Tryz.func173, Tryz.ntmps173
  go_wp2
  go_loop [6] (fun i => ∃ k : Nat, k ≤ s.size ∧ i = .int .i64 k ∧ Hid (∀ i (h : i < s.size), i < k → OkAt i s[i])) (fun i => s.size - (intOf i).toNat)
  case atStart => exact ⟨0, by omega, rfl, Lib.hid (fun i _ h => by omega)⟩
  case round =>
    obtain ⟨k, hk, rfl, HK⟩ := hrel
    by_cases hlt : k < s.size
    · rcases Nat.eq_zero_or_pos k with rfl | hk0
      · go_wp2
        all_goals first
          | (go_ret; refine ⟨retB (decide_eq_false (fun hn => ?_)).symm, rfl⟩; have := hn.2.2 0 hlt; unfold OkAt at this; omega)
          | (refine ⟨⟨1, by omega, by go_num, Lib.hid (fun i hi h => ?_)⟩, by simp [intOf]; omega⟩; obtain rfl : i = 0 := by omega
             unfold OkAt; omega)
      · have hk1 : ((k : Int) == 0) = false := by simp; omega
        go_wp2
        all_goals first
          | (go_ret; refine ⟨retB (decide_eq_false (fun hn => ?_)).symm, rfl⟩; have := hn.2.2 k hlt; unfold OkAt at this; omega)
          | (refine ⟨⟨k + 1, by omega, by go_num, Lib.hid (fun i hi h => ?_)⟩, by simp [intOf]; omega⟩; rcases Nat.lt_or_ge i k with h2 | h2
             · exact HK.out i hi h2
             · obtain rfl : i = k := by omega
               unfold OkAt; omega)
    · have hall : ∀ i (h : i < s.size), OkAt i s[i] := fun i h => HK.out i h (by omega)
      have hsz : s.toList.length = s.size := by rw [ByteArray.toList_eq]; rfl
      have hN : decide (NameOk s) = (decide (1 ≤ s.size) && decide (s.size ≤ 6)) := by
        rw [Bool.eq_iff_iff, Bool.and_eq_true, decide_eq_true_eq, decide_eq_true_eq, decide_eq_true_eq]
        exact ⟨fun h => ⟨h.1, h.2.1⟩, fun h => ⟨h.1, h.2, hall⟩⟩
      clear hall
      go_wp2
      · rename_i h _
        have : s.size = 0 := by rw [← hsz, h]; rfl
        go_ret
        exact ⟨retB (by simp [this]), rfl⟩
      · rename_i h _
        have : 1 ≤ s.size := by
          rw [← hsz]
          cases hl : s.toList with
          | nil => exact absurd hl h
          | cons _ _ => simp
        go_ret
        exact ⟨retB (by rw [decide_eq_true (p := 1 ≤ s.size) this, Bool.true_and, show s.toList.isEmpty = false from by simpa using h, Bool.not_false, Bool.true_and, Bool.eq_iff_iff, decide_eq_true_eq, decide_eq_true_eq]; omega), rfl⟩
/-- What a call of strconv and strings leans on. -/
structure LibOk (w : World) : Prop where
  max : ∃ m : Int, w.cell? ⟨0, 0, none⟩ = some (.int .i64 m)
  syn : ∃ t p, w.cell? ⟨1, 0, none⟩ = some (.iface t p)
  rng : ∃ t p, w.cell? ⟨2, 0, none⟩ = some (.iface t p)
  tab : Lib.TabIs Tryz.prog w "internal/strconv.uint64pow10" .u64 Lib.pow10Tab
theorem tab_up {w w' : World} {name : String} {k : IntKind} {zs : List Int} (h : Lib.TabIs Tryz.prog w name k zs) (hx : ∀ b, b < w.heap.size → w'.heap[b]? = w.heap[b]?) : Lib.TabIs Tryz.prog w' name k zs := by
  unfold Lib.TabIs World.var? at *
  cases hg : Tryz.prog.globalNamed name with
  | none => simp [hg] at h
  | some g =>
    simp only [hg, Option.bind_some] at h ⊢
    have hlt : g < w.heap.size := by
      rcases Nat.lt_or_ge g w.heap.size with h' | h'
      · exact h'
      · rw [Array.getElem?_eq_none h'] at h; simp at h
    rw [hx g hlt]
    exact h
theorem LibOk.ext {w w' : World} (h : LibOk w) (hx : Ext w w') : LibOk w' :=
  ⟨h.max.imp fun _ h => hx.some h, h.syn.imp fun _ h => h.imp fun _ h => hx.some h, h.rng.imp fun _ h => h.imp fun _ h => hx.some h, tab_up h.tab hx.block⟩
theorem ext_grow (w : World) (k : Nat) (os : Array Obj) : Ext w (Go.Sort.grow (w.drewN k) os) :=
  ⟨rfl, rfl, rfl, by simp [Go.Sort.grow], fun b hb => by
    show (w.heap ++ os)[b]? = _
    rw [Array.getElem?_append_left hb]⟩
theorem ext_drewN (w : World) (k : Nat) : Ext w (w.drewN k) := ⟨rfl, rfl, rfl, Nat.le_refl _, fun _ _ => rfl⟩
def itoaB (n : Int) : ByteArray := ⟨(Lib.itoa n).toArray⟩
theorem itoa_any (n : Int) (w : World) (h : LibOk w) (h0 : -9223372036854775808 ≤ n) (h1 : n ≤ 9223372036854775807) : Calls Tryz.prog 233 #[.int .i64 n] w fun e w' => e = .returned (.string (itoaB n)) ∧ Ext w w' :=
  (Tryz.strconv_Itoa n h0 h1 w h.tab).mono fun e w' ⟨he, k, os, hw⟩ => ⟨he, hw ▸ ext_grow w k os⟩
def cutB (s sep : ByteArray) : ByteArray × ByteArray × Bool := (⟨(Lib.cut s.data.toList sep.data.toList).1.toArray⟩, ⟨(Lib.cut s.data.toList sep.data.toList).2.1.toArray⟩, (Lib.cut s.data.toList sep.data.toList).2.2)
theorem cut_any (s sep : ByteArray) (w : World) (h : LibOk w) (hs : s.size < 4294967281) : Calls Tryz.prog 193 #[.string s, .string sep] w fun e w' => e = .returned (.tuple #[.string (cutB s sep).1, .string (cutB s sep).2.1, .bool (cutB s sep).2.2]) ∧ Ext w w' := by
  obtain ⟨m, hm⟩ := h.max
  exact (Tryz.strings_Cut s sep m w hs hm).mono fun e w' ⟨he, n, hw⟩ => ⟨he, hw ▸ ext_drewN w n⟩
/-- How Atoi ends. -/
def atoiV (s : ByteArray) : Option Int := match Lib.atoiAll s.data.toList with | .ok v => some v | _ => none
theorem atoi_ok (s : ByteArray) (v : Int) (w : World) (hs : s.size ≤ 4000000000) (hv : atoiV s = some v) : Calls Tryz.prog 194 #[.string s] w fun e w' => e = .returned (.tuple #[.int .i64 v, .nilIface]) ∧ Ext w w' := by
  have h : Lib.atoiAll s.data.toList = .ok v := by
    unfold atoiV at hv; split at hv
    · cases hv; assumption
    · cases hv
  refine (Tryz.strconv_Atoi_ok s (by omega) v h w).mono fun e w' ⟨he, hw⟩ => ⟨he, ?_⟩
  rcases hw with rfl | ⟨t, rfl⟩
  · exact Ext.refl _
  · exact Lib.bytesWorld_below w _ t
theorem atoi_no (s : ByteArray) (w : World) (h : LibOk w) (hs : s.size ≤ 4000000000) (hv : atoiV s = none) : Calls Tryz.prog 194 #[.string s] w fun e w' => (∃ x N, e = .returned (.tuple #[.int .i64 x, .iface 344 (.pointer (some ⟨N, 0, none⟩))])) ∧ Ext w w' := by
  rcases hr : Lib.atoiAll s.data.toList with v | _ | _
  · unfold atoiV at hv; rw [hr] at hv; cases hv
  · obtain ⟨t, p, hc⟩ := h.syn
    exact (Tryz.strconv_Atoi_syntax s (by omega) hr _ w hc (.inr ⟨t, p, rfl⟩)).mono fun e w' ⟨N, he, _, _, hb⟩ => ⟨⟨_, N, he⟩, hb⟩
  · obtain ⟨t, p, hc⟩ := h.rng
    exact (Tryz.strconv_Atoi_range s (by omega) hr _ w hc (.inr ⟨t, p, rfl⟩)).mono fun e w' ⟨N, he, _, _, hb⟩ => ⟨⟨_, N, he⟩, hb⟩
end Go.Proofs.YtagcmjmcjpjihaaGreatDoor
namespace Go.Proofs.YtagcmjmcjpjihaaGreatDoor
open Go.RowKit
def six (n : Nat) : ByteArray := ⟨(esix (n % 1000000)).toArray⟩
theorem itoa_slice (m : Nat) (h : m < 1000000) : (itoaB (1000000 + m)).extract 1 (itoaB (1000000 + m)).size = ⟨(esix m).toArray⟩ ∧ (itoaB (1000000 + m)).size = 7 := by
  have e : itoaB (1000000 + m) = ⟨(49 :: esix m).toArray⟩ := by
    unfold itoaB
    rw [show ((1000000 : Int) + (m : Int)) = ((1000000 + m : Nat) : Int) from rfl, Lib.itoa_nonneg, dec7 m h]
  rw [e]
  refine ⟨?_, rfl⟩
  apply ByteArray.ext
  rfl
set_option maxHeartbeats 1000000 in
set_option maxRecDepth 100000 in
theorem six_any (n : Nat) (w : World) (h : LibOk w) (hn : n ≤ 9223372036854775807) : Calls Tryz.prog 195 #[.int .i64 n] w fun e w' => e = .returned (.string (six n)) ∧ Ext w w' := by
  have hm : n % 1000000 < 1000000 := Nat.mod_lt _ (by decide)
  obtain ⟨e1, e2⟩ := itoa_slice (n % 1000000) hm
  have hi : ∀ w, LibOk w → Calls Tryz.prog 233 #[.int .i64 (1000000 + (n : Int) % 1000000)] w fun e w' => e = .returned (.string (itoaB (1000000 + ((n % 1000000 : Nat) : Int)))) ∧ Ext w w' := fun w h => by
    have := itoa_any (1000000 + ((n % 1000000 : Nat) : Int)) w h (by omega) (by omega)
    rwa [Int.natCast_emod] at this ⊢
  generalize itoaB (1000000 + ((n % 1000000 : Nat) : Int)) = x at *
  go_enter Tryz.func195, Tryz.ntmps195
  go_wp2_with (go_at_call 233; refine (hi _ h).mono ?_; rintro e w' ⟨rfl, hx⟩; dsimp only)
  rw [e2] at e1
  go_ret
  exact ⟨by rw [e1]; rfl, hx⟩
theorem six_size (n : Nat) : (six n).size = 6 := rfl
def tB : ByteArray := ⟨#[116]⟩
def qB : ByteArray := ⟨#[113]⟩
def mB : ByteArray := ⟨#[109]⟩
def slash : ByteArray := ⟨#[47]⟩
theorem app_data (a b : ByteArray) : (a ++ b).data.toList = a.data.toList ++ b.data.toList := by
  rw [ByteArray.data_append, Array.toList_append]
theorem ba_ext {a b : ByteArray} (h : a.data.toList = b.data.toList) : a = b := ByteArray.ext (Array.ext' h)
theorem cutB_hit (a b : ByteArray) (h : (47 : UInt8) ∉ a.data.toList) : cutB (a ++ slash ++ b) slash = (a, b, true) := by
  unfold cutB
  have e : (a ++ slash ++ b).data.toList = a.data.toList ++ 47 :: b.data.toList := by
    rw [app_data, app_data, List.append_assoc]; rfl
  rw [e, show slash.data.toList = [47] from rfl, cut_hit 47 _ _ h]
theorem cutB_spec (s : ByteArray) : (∃ a b : ByteArray, s = a ++ slash ++ b ∧ (47 : UInt8) ∉ a.data.toList ∧ cutB s slash = (a, b, true)) ∨ cutB s slash = (s, ⟨#[]⟩, false) := by
  rcases cut_spec 47 s.data.toList with ⟨a, b, h1, h2, h3⟩ | ⟨h1, h2⟩
  · refine .inl ⟨⟨a.toArray⟩, ⟨b.toArray⟩, ?_, by simpa using h2, ?_⟩
    · apply ba_ext
      rw [app_data, app_data, h1, List.append_assoc]; rfl
    · unfold cutB
      rw [show slash.data.toList = [47] from rfl, h3]
  · refine .inr ?_
    unfold cutB
    rw [show slash.data.toList = [47] from rfl, h2]
/-- May it be a row's key? -/
def KeyOk (k : ByteArray) : Prop := (∃ a, NameOk a ∧ (k = tB ++ slash ++ a ∨ k = qB ++ slash ++ a)) ∨ ∃ q n, NameOk q ∧ n < 1000000 ∧ k = mB ++ slash ++ (q ++ slash ++ six n)
theorem name_noslash {a : ByteArray} (h : NameOk a) : (47 : UInt8) ∉ a.data.toList := fun hm => by
  obtain ⟨i, hi, he⟩ := List.getElem_of_mem hm
  have := h.2.2 i (by simpa using hi)
  have e : a[i]'(by simpa using hi) = 47 := by
    rw [← he]; rfl
  rw [e] at this
  unfold OkAt at this
  rw [show UInt8.toNat 47 = 47 from rfl] at this
  omega
theorem KeyOk_cut (k : ByteArray) : KeyOk k ↔ (cutB k slash).2.2 = true ∧ ((((cutB k slash).1 = tB ∨ (cutB k slash).1 = qB) ∧ NameOk (cutB k slash).2.1) ∨
    ((cutB k slash).1 = mB ∧ (cutB (cutB k slash).2.1 slash).2.2 = true ∧ NameOk (cutB (cutB k slash).2.1 slash).1 ∧ ∃ n, n < 1000000 ∧ (cutB (cutB k slash).2.1 slash).2.1 = six n)) := by
  constructor
  · rintro (⟨a, ha, rfl | rfl⟩ | ⟨q, n, hq, hn, rfl⟩)
    · rw [cutB_hit tB a (by decide)]; exact ⟨rfl, .inl ⟨.inl rfl, ha⟩⟩
    · rw [cutB_hit qB a (by decide)]; exact ⟨rfl, .inl ⟨.inr rfl, ha⟩⟩
    · rw [cutB_hit mB _ (by decide)]
      dsimp only
      rw [cutB_hit q _ (name_noslash hq)]
      exact ⟨rfl, .inr ⟨rfl, rfl, hq, n, hn, rfl⟩⟩
  · rintro ⟨h1, h2⟩
    rcases cutB_spec k with ⟨a, b, hk, ha, hc⟩ | hc
    · rw [hc] at h1 h2
      dsimp only at h1 h2
      rcases h2 with ⟨rfl | rfl, hb⟩ | ⟨rfl, h3, h4, n, hn, h5⟩
      · exact .inl ⟨b, hb, .inl hk⟩
      · exact .inl ⟨b, hb, .inr hk⟩
      · rcases cutB_spec b with ⟨q, m, hb, hq, hc2⟩ | hc2
        · rw [hc2] at h3 h4 h5
          dsimp only at h3 h4 h5
          subst h5
          exact .inr ⟨q, n, h4, hn, by rw [hk, hb]⟩
        · rw [hc2] at h3; cases h3
    · rw [hc] at h1; cases h1
open Classical in
noncomputable def keyN (k : ByteArray) : Nat := if KeyOk k then 0 else 3
theorem keyN_yes {k : ByteArray} (h : KeyOk k) : keyN k = 0 := if_pos h
theorem keyN_no {k : ByteArray} (h : ¬ KeyOk k) : keyN k = 3 := if_neg h
theorem list_eq {a : ByteArray} {l : List UInt8} (h : (a.toList == l) = true) : a = ⟨l.toArray⟩ := by
  apply ba_ext
  rw [ByteArray.toList_eq] at h
  simpa using h
theorem list_ne {a : ByteArray} {l : List UInt8} (h : (a.toList == l) = false) : a ≠ ⟨l.toArray⟩ := fun e => by
  rw [e, ByteArray.toList_eq] at h
  simp at h
theorem cutB_size (s : ByteArray) : (cutB s slash).1.size ≤ s.size ∧ (cutB s slash).2.1.size ≤ s.size := by
  rcases cutB_spec s with ⟨a, b, h1, _, h2⟩ | h
  · rw [h2, h1, ByteArray.size_append, ByteArray.size_append]
    dsimp only
    omega
  · rw [h]
    exact ⟨Nat.le_refl _, Nat.zero_le _⟩
theorem atoiV_six (n : Nat) (h : n < 1000000) : atoiV (six n) = some (n : Int) := by
  unfold atoiV
  have e : Lib.atoiAll (six n).data.toList = .ok (n : Int) := by
    show Lib.atoiAll (esix (n % 1000000)) = _
    rw [Nat.mod_eq_of_lt h]; exact atoi_six n h
  rw [e]
theorem atoiV_bounds {s : ByteArray} {v : Int} (h : atoiV s = some v) : v ≤ 9223372036854775807 := by
  unfold atoiV at h
  split at h
  · cases h
    rename_i h
    exact (Lib.atoiAll_bounds h).2
  · cases h
theorem six_mod (n : Nat) : six (n % 1000000) = six n := by unfold six; rw [Nat.mod_mod]
theorem list_neq {a b : ByteArray} (h : a ≠ b) : (a.toList == b.toList) = false := by
  cases h2 : (a.toList == b.toList) with
  | false => rfl
  | true =>
    exfalso; apply h
    rw [ByteArray.toList_eq, ByteArray.toList_eq] at h2
    exact ba_ext (by simpa using h2)
set_option maxHeartbeats 4000000 in
set_option maxRecDepth 100000 in
theorem check_any (k : ByteArray) (w : World) (h : LibOk w) (hs : k.size ≤ 4000000000) : Calls Tryz.prog 111 #[.string k] w fun e w' => e = .returned (errV (keyN k)) ∧ Ext w w' := by
  have hx : Ext w w := Ext.refl w
  have hK := KeyOk_cut k
  have HC1 := fun w h => cut_any k slash w h (by omega)
  have hb2 : (cutB k slash).2.1.size ≤ 4000000000 := by have := (cutB_size k).2; omega
  generalize cutB k slash = c at *
  obtain ⟨a, b, ok⟩ := c
  dsimp only at *
  rw [show slash = ⟨#[47]⟩ from rfl] at HC1
  have HN1 := fun w => name_any b w (by omega)
  cases ok with
  | false =>
    rw [keyN_no (fun hk => by have := (hK.1 hk).1; cases this), show errV 3 = .iface 124 (.int .i64 3) from rfl]
    clear hK
    go_enter Tryz.func111, Tryz.ntmps111
    go_wp2_with (first | (go_at_call 193; (with_reducible apply Calls.mono (HC1 _ h); rintro e8 w8 ⟨rfl, hx8⟩; replace h := h.ext hx8; replace hx := hx.trans hx8; clear hx8; dsimp only))) -- M1
    go_ret
    exact ⟨rfl, hx⟩
  | true =>
    have hK2 : KeyOk k ↔ ((a = tB ∨ a = qB) ∧ NameOk b ∨ a = mB ∧ (cutB b slash).2.2 = true ∧ NameOk (cutB b slash).1 ∧ ∃ n, n < 1000000 ∧ (cutB b slash).2.1 = six n) := hK.trans ⟨fun h => h.2, fun h => ⟨rfl, h⟩⟩
    clear hK
    cases ht : (a.toList == [116]) with
    | true =>
      have : a = tB := list_eq ht
      have hK3 : KeyOk k ↔ NameOk b := hK2.trans ⟨fun h => h.elim And.right (fun h => by rw [this] at h; exact absurd h.1 (by decide)), fun h => .inl ⟨.inl this, h⟩⟩
      clear hK2 this
      by_cases hN : NameOk b
      · rw [keyN_yes (hK3.2 hN), show errV 0 = .nilIface from rfl]
        rw [decide_eq_true hN] at HN1
        clear hK3 hN
        go_enter Tryz.func111, Tryz.ntmps111
        go_wp2_with (first | (go_at_call 193; (with_reducible apply Calls.mono (HC1 _ h); rintro e8 w8 ⟨rfl, hx8⟩; replace h := h.ext hx8; replace hx := hx.trans hx8; clear hx8; dsimp only)) | (go_at_call 173; (with_reducible apply Calls.mono (HN1 _); rintro e8 w8 ⟨rfl, rfl⟩; dsimp only)))
        go_ret
        exact ⟨rfl, hx⟩
      · rw [keyN_no (fun h => hN (hK3.1 h)), show errV 3 = .iface 124 (.int .i64 3) from rfl]
        rw [decide_eq_false hN] at HN1
        clear hK3 hN
        go_enter Tryz.func111, Tryz.ntmps111
        go_wp2_with (first | (go_at_call 193; (with_reducible apply Calls.mono (HC1 _ h); rintro e8 w8 ⟨rfl, hx8⟩; replace h := h.ext hx8; replace hx := hx.trans hx8; clear hx8; dsimp only)) | (go_at_call 173; (with_reducible apply Calls.mono (HN1 _); rintro e8 w8 ⟨rfl, rfl⟩; dsimp only)))
        go_ret
        exact ⟨rfl, hx⟩
    | false =>
      cases hq : (a.toList == [113]) with
      | true =>
        have : a = qB := list_eq hq
        have hK3 : KeyOk k ↔ NameOk b := hK2.trans ⟨fun h => h.elim And.right (fun h => by rw [this] at h; exact absurd h.1 (by decide)), fun h => .inl ⟨.inr this, h⟩⟩
        clear hK2 this
        by_cases hN : NameOk b
        · rw [keyN_yes (hK3.2 hN), show errV 0 = .nilIface from rfl]
          rw [decide_eq_true hN] at HN1
          clear hK3 hN
          go_enter Tryz.func111, Tryz.ntmps111
          go_wp2_with (first | (go_at_call 193; (with_reducible apply Calls.mono (HC1 _ h); rintro e8 w8 ⟨rfl, hx8⟩; replace h := h.ext hx8; replace hx := hx.trans hx8; clear hx8; dsimp only)) | (go_at_call 173; (with_reducible apply Calls.mono (HN1 _); rintro e8 w8 ⟨rfl, rfl⟩; dsimp only)))
          go_ret
          exact ⟨rfl, hx⟩
        · rw [keyN_no (fun h => hN (hK3.1 h)), show errV 3 = .iface 124 (.int .i64 3) from rfl]
          rw [decide_eq_false hN] at HN1
          clear hK3 hN
          go_enter Tryz.func111, Tryz.ntmps111
          go_wp2_with (first | (go_at_call 193; (with_reducible apply Calls.mono (HC1 _ h); rintro e8 w8 ⟨rfl, hx8⟩; replace h := h.ext hx8; replace hx := hx.trans hx8; clear hx8; dsimp only)) | (go_at_call 173; (with_reducible apply Calls.mono (HN1 _); rintro e8 w8 ⟨rfl, rfl⟩; dsimp only)))
          go_ret
          exact ⟨rfl, hx⟩
      | false =>
        cases hm : (a.toList == [109]) with
        | false =>
          rw [keyN_no (fun h => (hK2.1 h).elim (fun h => h.1.elim (list_ne ht) (list_ne hq)) (fun h => list_ne hm h.1)), show errV 3 = .iface 124 (.int .i64 3) from rfl]
          clear hK2
          go_enter Tryz.func111, Tryz.ntmps111
          go_wp2_with (first | (go_at_call 193; (with_reducible apply Calls.mono (HC1 _ h); rintro e8 w8 ⟨rfl, hx8⟩; replace h := h.ext hx8; replace hx := hx.trans hx8; clear hx8; dsimp only)))
          go_ret
          exact ⟨rfl, hx⟩
        | true =>
          have : a = mB := list_eq hm
          have hK3 : KeyOk k ↔ ((cutB b slash).2.2 = true ∧ NameOk (cutB b slash).1 ∧ ∃ n, n < 1000000 ∧ (cutB b slash).2.1 = six n) := hK2.trans ⟨fun h => h.elim (fun h => by rw [this] at h; exact absurd h.1 (by decide)) And.right, fun h => .inr ⟨this, h⟩⟩
          clear hK2 this HN1
          have HC2 := fun w h => cut_any b slash w h (by omega)
          have hb3 : (cutB b slash).2.1.size ≤ 4000000000 ∧ (cutB b slash).1.size ≤ 4000000000 := by have := cutB_size b; omega
          generalize cutB b slash = c2 at *
          obtain ⟨q, n, is⟩ := c2
          dsimp only at *
          rw [show slash = ⟨#[47]⟩ from rfl] at HC2
          have HN1 := fun w => name_any q w (by omega)
          cases hA : atoiV n with
          | none =>
            rw [keyN_no (fun h => by obtain ⟨_, _, m, hm, rfl⟩ := hK3.1 h; rw [atoiV_six m hm] at hA; cases hA), show errV 3 = .iface 124 (.int .i64 3) from rfl]
            have HA := fun w h => atoi_no n w h (by omega) hA
            clear hK3
            cases is with
            | false =>
              go_enter Tryz.func111, Tryz.ntmps111
              go_wp2_with (first | (go_at_call 193; (with_reducible apply Calls.mono (HC1 _ h); rintro e8 w8 ⟨rfl, hx8⟩; replace h := h.ext hx8; replace hx := hx.trans hx8; clear hx8; dsimp only)) | (go_at_call 193; (with_reducible apply Calls.mono (HC2 _ h); rintro e8 w8 ⟨rfl, hx8⟩; replace h := h.ext hx8; replace hx := hx.trans hx8; clear hx8; dsimp only)) | (go_at_call 194; (with_reducible apply Calls.mono (HA _ h); rintro e8 w8 ⟨⟨x8, N8, rfl⟩, hx8⟩; replace h := h.ext hx8; replace hx := hx.trans hx8; clear hx8; dsimp only)))
              go_ret
              exact ⟨rfl, hx⟩
            | true =>
              by_cases hN : NameOk q
              · rw [decide_eq_true hN] at HN1
                clear hN
                go_enter Tryz.func111, Tryz.ntmps111
                go_wp2_with (first | (go_at_call 193; (with_reducible apply Calls.mono (HC1 _ h); rintro e8 w8 ⟨rfl, hx8⟩; replace h := h.ext hx8; replace hx := hx.trans hx8; clear hx8; dsimp only)) | (go_at_call 193; (with_reducible apply Calls.mono (HC2 _ h); rintro e8 w8 ⟨rfl, hx8⟩; replace h := h.ext hx8; replace hx := hx.trans hx8; clear hx8; dsimp only)) | (go_at_call 194; (with_reducible apply Calls.mono (HA _ h); rintro e8 w8 ⟨⟨x8, N8, rfl⟩, hx8⟩; replace h := h.ext hx8; replace hx := hx.trans hx8; clear hx8; dsimp only)) | (go_at_call 173; (with_reducible apply Calls.mono (HN1 _); rintro e8 w8 ⟨rfl, rfl⟩; dsimp only)))
                go_ret
                exact ⟨rfl, hx⟩
              · rw [decide_eq_false hN] at HN1
                clear hN
                go_enter Tryz.func111, Tryz.ntmps111
                go_wp2_with (first | (go_at_call 193; (with_reducible apply Calls.mono (HC1 _ h); rintro e8 w8 ⟨rfl, hx8⟩; replace h := h.ext hx8; replace hx := hx.trans hx8; clear hx8; dsimp only)) | (go_at_call 193; (with_reducible apply Calls.mono (HC2 _ h); rintro e8 w8 ⟨rfl, hx8⟩; replace h := h.ext hx8; replace hx := hx.trans hx8; clear hx8; dsimp only)) | (go_at_call 194; (with_reducible apply Calls.mono (HA _ h); rintro e8 w8 ⟨⟨x8, N8, rfl⟩, hx8⟩; replace h := h.ext hx8; replace hx := hx.trans hx8; clear hx8; dsimp only)) | (go_at_call 173; (with_reducible apply Calls.mono (HN1 _); rintro e8 w8 ⟨rfl, rfl⟩; dsimp only)))
                go_ret
                exact ⟨rfl, hx⟩
          | some v =>
            have HA := fun w (h : LibOk w) => atoi_ok n v w (by omega) hA
            have hvb := atoiV_bounds hA
            cases is with
            | false =>
              rw [keyN_no (fun h => by have := (hK3.1 h).1; cases this), show errV 3 = .iface 124 (.int .i64 3) from rfl]
              clear hK3
              go_enter Tryz.func111, Tryz.ntmps111
              go_wp2_with (first | (go_at_call 193; (with_reducible apply Calls.mono (HC1 _ h); rintro e8 w8 ⟨rfl, hx8⟩; replace h := h.ext hx8; replace hx := hx.trans hx8; clear hx8; dsimp only)) | (go_at_call 193; (with_reducible apply Calls.mono (HC2 _ h); rintro e8 w8 ⟨rfl, hx8⟩; replace h := h.ext hx8; replace hx := hx.trans hx8; clear hx8; dsimp only)) | (go_at_call 194; (with_reducible apply Calls.mono (HA _ h); rintro e8 w8 ⟨rfl, hx8⟩; replace h := h.ext hx8; replace hx := hx.trans hx8; clear hx8; dsimp only)))
              go_ret
              exact ⟨rfl, hx⟩
            | true =>
              by_cases hN : NameOk q
              · have hK4 : KeyOk k ↔ ∃ m, m < 1000000 ∧ n = six m := hK3.trans ⟨fun h => h.2.2, fun h => ⟨rfl, hN, h⟩⟩
                clear hK3
                rw [decide_eq_true hN] at HN1
                by_cases hv : 0 ≤ v
                · obtain ⟨m, rfl⟩ := Int.eq_ofNat_of_zero_le hv
                  have HS := fun w h => six_any m w h (by omega)
                  by_cases h6 : n.size = 6
                  · have h6' : ((n.size : Int) == 6) = true := by rw [h6]; rfl
                    by_cases hs : six m = n
                    · rw [keyN_yes (hK4.2 ⟨m % 1000000, Nat.mod_lt _ (by decide), by rw [six_mod, hs]⟩), show errV 0 = .nilIface from rfl]
                      rw [hs] at HS
                      clear hK4 hN hv h6
                      go_enter Tryz.func111, Tryz.ntmps111
                      go_wp2_with (first | (go_at_call 193; (with_reducible apply Calls.mono (HC1 _ h); rintro e8 w8 ⟨rfl, hx8⟩; replace h := h.ext hx8; replace hx := hx.trans hx8; clear hx8; dsimp only)) | (go_at_call 193; (with_reducible apply Calls.mono (HC2 _ h); rintro e8 w8 ⟨rfl, hx8⟩; replace h := h.ext hx8; replace hx := hx.trans hx8; clear hx8; dsimp only)) | (go_at_call 194; (with_reducible apply Calls.mono (HA _ h); rintro e8 w8 ⟨rfl, hx8⟩; replace h := h.ext hx8; replace hx := hx.trans hx8; clear hx8; dsimp only)) | (go_at_call 173; (with_reducible apply Calls.mono (HN1 _); rintro e8 w8 ⟨rfl, rfl⟩; dsimp only)) | (go_at_call 195; (with_reducible apply Calls.mono (HS _ h); rintro e8 w8 ⟨rfl, hx8⟩; replace h := h.ext hx8; replace hx := hx.trans hx8; clear hx8; dsimp only)))
                      go_ret
                      exact ⟨rfl, hx⟩
                    · rw [keyN_no (fun h => by
                        obtain ⟨m', hm', rfl⟩ := hK4.1 h
                        rw [atoiV_six m' hm'] at hA
                        injection hA with hA
                        exact hs (by rw [show m = m' from by omega])), show errV 3 = .iface 124 (.int .i64 3) from rfl]
                      have hs2 := list_neq hs
                      generalize six m = y at *
                      clear hK4 hN hv h6 hs
                      go_enter Tryz.func111, Tryz.ntmps111
                      go_wp2_with (first | (go_at_call 193; (with_reducible apply Calls.mono (HC1 _ h); rintro e8 w8 ⟨rfl, hx8⟩; replace h := h.ext hx8; replace hx := hx.trans hx8; clear hx8; dsimp only)) | (go_at_call 193; (with_reducible apply Calls.mono (HC2 _ h); rintro e8 w8 ⟨rfl, hx8⟩; replace h := h.ext hx8; replace hx := hx.trans hx8; clear hx8; dsimp only)) | (go_at_call 194; (with_reducible apply Calls.mono (HA _ h); rintro e8 w8 ⟨rfl, hx8⟩; replace h := h.ext hx8; replace hx := hx.trans hx8; clear hx8; dsimp only)) | (go_at_call 173; (with_reducible apply Calls.mono (HN1 _); rintro e8 w8 ⟨rfl, rfl⟩; dsimp only)) | (go_at_call 195; (with_reducible apply Calls.mono (HS _ h); rintro e8 w8 ⟨rfl, hx8⟩; replace h := h.ext hx8; replace hx := hx.trans hx8; clear hx8; dsimp only)))
                      all_goals (go_ret; exact ⟨rfl, hx⟩)
                  · have h6' : ((n.size : Int) == 6) = false := by simp; omega
                    rw [keyN_no (fun h => by obtain ⟨m', _, rfl⟩ := hK4.1 h; exact h6 rfl), show errV 3 = .iface 124 (.int .i64 3) from rfl]
                    clear hK4 hN hv h6
                    go_enter Tryz.func111, Tryz.ntmps111
                    go_wp2_with (first | (go_at_call 193; (with_reducible apply Calls.mono (HC1 _ h); rintro e8 w8 ⟨rfl, hx8⟩; replace h := h.ext hx8; replace hx := hx.trans hx8; clear hx8; dsimp only)) | (go_at_call 193; (with_reducible apply Calls.mono (HC2 _ h); rintro e8 w8 ⟨rfl, hx8⟩; replace h := h.ext hx8; replace hx := hx.trans hx8; clear hx8; dsimp only)) | (go_at_call 194; (with_reducible apply Calls.mono (HA _ h); rintro e8 w8 ⟨rfl, hx8⟩; replace h := h.ext hx8; replace hx := hx.trans hx8; clear hx8; dsimp only)) | (go_at_call 173; (with_reducible apply Calls.mono (HN1 _); rintro e8 w8 ⟨rfl, rfl⟩; dsimp only)))
                    all_goals (go_ret; exact ⟨rfl, hx⟩)
                · rw [keyN_no (fun h => by obtain ⟨m', hm', rfl⟩ := hK4.1 h; rw [atoiV_six m' hm'] at hA; injection hA with hA; omega), show errV 3 = .iface 124 (.int .i64 3) from rfl]
                  clear hK4 hN
                  go_enter Tryz.func111, Tryz.ntmps111
                  go_wp2_with (first | (go_at_call 193; (with_reducible apply Calls.mono (HC1 _ h); rintro e8 w8 ⟨rfl, hx8⟩; replace h := h.ext hx8; replace hx := hx.trans hx8; clear hx8; dsimp only)) | (go_at_call 193; (with_reducible apply Calls.mono (HC2 _ h); rintro e8 w8 ⟨rfl, hx8⟩; replace h := h.ext hx8; replace hx := hx.trans hx8; clear hx8; dsimp only)) | (go_at_call 194; (with_reducible apply Calls.mono (HA _ h); rintro e8 w8 ⟨rfl, hx8⟩; replace h := h.ext hx8; replace hx := hx.trans hx8; clear hx8; dsimp only)) | (go_at_call 173; (with_reducible apply Calls.mono (HN1 _); rintro e8 w8 ⟨rfl, rfl⟩; dsimp only)))
                  all_goals (go_ret; exact ⟨rfl, hx⟩)
              · rw [keyN_no (fun h => hN (hK3.1 h).2.1), show errV 3 = .iface 124 (.int .i64 3) from rfl]
                rw [decide_eq_false hN] at HN1
                clear hK3 hN
                go_enter Tryz.func111, Tryz.ntmps111
                go_wp2_with (first | (go_at_call 193; (with_reducible apply Calls.mono (HC1 _ h); rintro e8 w8 ⟨rfl, hx8⟩; replace h := h.ext hx8; replace hx := hx.trans hx8; clear hx8; dsimp only)) | (go_at_call 193; (with_reducible apply Calls.mono (HC2 _ h); rintro e8 w8 ⟨rfl, hx8⟩; replace h := h.ext hx8; replace hx := hx.trans hx8; clear hx8; dsimp only)) | (go_at_call 194; (with_reducible apply Calls.mono (HA _ h); rintro e8 w8 ⟨rfl, hx8⟩; replace h := h.ext hx8; replace hx := hx.trans hx8; clear hx8; dsimp only)) | (go_at_call 173; (with_reducible apply Calls.mono (HN1 _); rintro e8 w8 ⟨rfl, rfl⟩; dsimp only)))
                go_ret
                exact ⟨rfl, hx⟩
end Go.Proofs.YtagcmjmcjpjihaaGreatDoor
namespace Go.Proofs.YtagcmjmcjpjihaaGreatDoor
open Go.RowKit
theorem itoaB_list (n : Nat) : (itoaB n).data.toList = Lib.decDigits n := by unfold itoaB; rw [Lib.itoa_nonneg]
def sp : ByteArray := ⟨#[32]⟩
theorem indexB_hit (x r : ByteArray) (h : (32 : UInt8) ∉ x.data.toList) : Lib.indexB (x ++ sp ++ r) sp = x.size := by
  unfold Lib.indexB
  have e : (x ++ sp ++ r).data.toList = x.data.toList ++ 32 :: r.data.toList := by rw [app_data, app_data, List.append_assoc]; rfl
  rw [e, show sp.data.toList = [32] from rfl, index_hit 32 _ _ h]
  simp
theorem split_hit (x r : ByteArray) (k : Nat) (h : (32 : UInt8) ∉ x.data.toList) : Lib.splitB sp 0 (k + 1) (x ++ sp ++ r) = x :: Lib.splitB sp 0 k r := by
  rw [Lib.splitB_hit sp 0 k _ _ (indexB_hit x r h)]
  have e : (x ++ sp ++ r).data.toList = x.data.toList ++ 32 :: r.data.toList := by rw [app_data, app_data, List.append_assoc]; rfl
  have e1 : (x ++ sp ++ r).extract 0 (x.size + 0) = x := ba_ext (by
    rw [Lib.extract_from_zero, e]
    have : x.size = x.data.toList.length := by simp
    rw [Nat.add_zero, this, List.take_left])
  have e2 : (x ++ sp ++ r).extract (x.size + sp.size) (x ++ sp ++ r).size = r := ba_ext (by
    have hl : (x ++ sp ++ r).size = x.size + 1 + r.size := by rw [ByteArray.size_append, ByteArray.size_append]; rfl
    rw [ByteArray.data_extract, Array.toList_extract, hl, e]
    have hx : x.size = x.data.toList.length := by simp
    have hr : r.size = r.data.toList.length := by simp
    rw [show sp.size = 1 from rfl, List.extract_eq_take_drop, hx, hr, ← List.drop_drop, List.drop_left]
    simp only [List.drop_succ_cons, List.drop_zero]
    rw [List.take_of_length_le (by omega)])
  rw [e1, e2]
end Go.Proofs.YtagcmjmcjpjihaaGreatDoor
namespace Go.Proofs.YtagcmjmcjpjihaaGreatDoor
open Go.RowKit
theorem bl_cons (x y : UInt8) (s t : List UInt8) : Op.bytesLess (x :: s) (y :: t) = (decide (x < y) || (x == y && Op.bytesLess s t)) := rfl
theorem bl_same (p s t : List UInt8) : Op.bytesLess (p ++ s) (p ++ t) = Op.bytesLess s t := by
  induction p with
  | nil => rfl
  | cons x p ih =>
    rw [List.cons_append, List.cons_append, bl_cons, ih]
    have : ¬ x < x := fun h => absurd h (by simp)
    simp
theorem u8_lt {x y : UInt8} : x < y ↔ x.toNat < y.toNat := UInt8.lt_iff_toNat_lt
theorem bl_digit (i j : Nat) (hi : i < 10) (hj : j < 10) (s t : List UInt8) : Op.bytesLess (d8 i :: s) (d8 j :: t) = (decide (i < j) || (decide (i = j) && Op.bytesLess s t)) := by
  rw [bl_cons]
  have e1 : decide (d8 i < d8 j) = decide (i < j) := by
    rw [Bool.eq_iff_iff, decide_eq_true_eq, decide_eq_true_eq, u8_lt, d8_toNat i hi, d8_toNat j hj]; omega
  have e2 : (d8 i == d8 j) = decide (i = j) := by
    rw [Bool.eq_iff_iff, beq_iff_eq, decide_eq_true_eq]
    constructor
    · intro h
      have := congrArg UInt8.toNat h
      rw [d8_toNat i hi, d8_toNat j hj] at this; omega
    · rintro rfl; rfl
  rw [e1, e2]
theorem lex {A A' n m : Nat} {P : Prop} (hlt : A < A' → n < m) (hgt : A' < A → ¬ n < m) (heq : A = A' → (P ↔ n < m)) : (A < A' ∨ A = A' ∧ P) ↔ n < m := by
  rcases Nat.lt_trichotomy A A' with h | h | h
  · exact ⟨fun _ => hlt h, fun _ => .inl h⟩
  · exact ⟨fun h' => h'.elim (fun h' => absurd h' (by omega)) (fun h' => (heq h).1 h'.2), fun h' => .inr ⟨h, (heq h).2 h'⟩⟩
  · exact ⟨fun h' => h'.elim (fun h' => absurd h' (by omega)) (fun h' => absurd h'.1 (by omega)), fun h' => absurd h' (hgt h)⟩
theorem digits6 (n : Nat) (h : n < 1000000) : n = ((((n / 100000 % 10 * 10 + n / 10000 % 10) * 10 + n / 1000 % 10) * 10 + n / 100 % 10) * 10 + n / 10 % 10) * 10 + n % 10 := by omega
theorem bl_six (n m : Nat) (hn : n < 1000000) (hm : m < 1000000) : Op.bytesLess (esix n) (esix m) = decide (n < m) := by
  unfold esix
  have h1 := digits6 n hn
  have h2 := digits6 m hm
  have a0 : n / 100000 % 10 < 10 := by omega
  have a1 : n / 10000 % 10 < 10 := by omega
  have a2 : n / 1000 % 10 < 10 := by omega
  have a3 : n / 100 % 10 < 10 := by omega
  have a4 : n / 10 % 10 < 10 := by omega
  have a5 : n % 10 < 10 := by omega
  have b0 : m / 100000 % 10 < 10 := by omega
  have b1 : m / 10000 % 10 < 10 := by omega
  have b2 : m / 1000 % 10 < 10 := by omega
  have b3 : m / 100 % 10 < 10 := by omega
  have b4 : m / 10 % 10 < 10 := by omega
  have b5 : m % 10 < 10 := by omega
  rw [bl_digit _ _ a0 b0, bl_digit _ _ a1 b1, bl_digit _ _ a2 b2, bl_digit _ _ a3 b3, bl_digit _ _ a4 b4, bl_digit _ _ a5 b5]
  rw [show Op.bytesLess [] [] = false from rfl, Bool.and_false, Bool.or_false, Bool.eq_iff_iff]
  simp only [Bool.or_eq_true, Bool.and_eq_true, decide_eq_true_eq]
  generalize n / 100000 % 10 = x0 at *
  generalize n / 10000 % 10 = x1 at *
  generalize n / 1000 % 10 = x2 at *
  generalize n / 100 % 10 = x3 at *
  generalize n / 10 % 10 = x4 at *
  generalize n % 10 = x5 at *
  generalize m / 100000 % 10 = y0 at *
  generalize m / 10000 % 10 = y1 at *
  generalize m / 1000 % 10 = y2 at *
  generalize m / 100 % 10 = y3 at *
  generalize m / 10 % 10 = y4 at *
  generalize m % 10 = y5 at *
  refine lex (fun h => by omega) (fun h => by omega) fun h0 => ?_
  refine lex (fun h => by omega) (fun h => by omega) fun h1 => ?_
  refine lex (fun h => by omega) (fun h => by omega) fun h2 => ?_
  refine lex (fun h => by omega) (fun h => by omega) fun h3 => ?_
  refine lex (fun h => by omega) (fun h => by omega) fun h4 => ?_
  omega
def tabB (a : ByteArray) : ByteArray := tB ++ slash ++ a
def queB (a : ByteArray) : ByteArray := qB ++ slash ++ a
def msgB (q : ByteArray) (n : Nat) : ByteArray := mB ++ slash ++ (q ++ slash ++ six n)
/-- What lies from p/ on and below p0. -/
theorem between (p s : List UInt8) : (Op.bytesLess s (p ++ [47]) = false ∧ Op.bytesLess s (p ++ [48]) = true) ↔ ∃ r, s = p ++ 47 :: r := by
  induction p generalizing s with
  | nil =>
    cases s with
    | nil => simp [Op.bytesLess]
    | cons x s =>
      rw [List.nil_append, List.nil_append, bl_cons, bl_cons, show Op.bytesLess s [] = false from by cases s <;> rfl, Bool.and_false, Bool.or_false, Bool.and_false, Bool.or_false, decide_eq_false_iff_not, decide_eq_true_eq, u8_lt, u8_lt]
      rw [show UInt8.toNat 47 = 47 from rfl, show UInt8.toNat 48 = 48 from rfl]
      constructor
      · intro h
        have : x.toNat = 47 := by omega
        exact ⟨s, by rw [show x = 47 from UInt8.toNat_inj.1 this]; rfl⟩
      · rintro ⟨r, h⟩
        injection h with h _
        subst h
        decide
  | cons y p ih =>
    cases s with
    | nil => simp [Op.bytesLess]
    | cons x s =>
      rw [List.cons_append, List.cons_append, bl_cons, bl_cons]
      by_cases h1 : x < y
      · have h2 : x ≠ y := fun e => by rw [e] at h1; exact absurd h1 (by simp)
        simp [h1, h2]
      · by_cases h2 : x = y
        · subst h2
          have := ih s
          simp [this]
        · have h3 : (x == y) = false := by simpa using h2
          simp [h1, h2]
theorem has_msgs (a k : ByteArray) : (!slt k (mB ++ slash ++ a ++ slash) && (((mB ++ slash ++ a ++ ⟨#[48]⟩) : ByteArray).toList.isEmpty || slt k (mB ++ slash ++ a ++ ⟨#[48]⟩))) = true ↔ ∃ r, k.data.toList = 109 :: 47 :: (a.data.toList ++ 47 :: r) := by
  have e1 : (mB ++ slash ++ a ++ slash).toList = (109 :: 47 :: a.data.toList) ++ [47] := by rw [ByteArray.toList_eq, app_data, app_data, app_data]; rfl
  have e2 : ((mB ++ slash ++ a ++ ⟨#[48]⟩) : ByteArray).toList = (109 :: 47 :: a.data.toList) ++ [48] := by rw [ByteArray.toList_eq, app_data, app_data, app_data]; rfl
  have := between (109 :: 47 :: a.data.toList) k.toList
  unfold slt
  rw [e1, e2, Bool.and_eq_true, Bool.not_eq_true', show ((109 :: 47 :: a.data.toList) ++ [(48 : UInt8)]).isEmpty = false from rfl, Bool.false_or, this, ByteArray.toList_eq]
  rfl
theorem has_msg {a b : ByteArray} (ha : NameOk a) (hb : NameOk b) (m : Nat) : (∃ r, (msgB b m).data.toList = 109 :: 47 :: (a.data.toList ++ 47 :: r)) ↔ a = b := by
  have e : (msgB b m).data.toList = 109 :: 47 :: (b.data.toList ++ 47 :: esix (m % 1000000)) := by
    unfold msgB
    rw [app_data, app_data, app_data, app_data]; simp only [List.append_assoc]; rfl
  rw [e]
  constructor
  · rintro ⟨r, h⟩
    injection h with _ h
    injection h with _ h
    have h1 := cut_hit 47 a.data.toList r (name_noslash ha)
    rw [← h, cut_hit 47 _ _ (name_noslash hb)] at h1
    injection h1 with h1 _
    exact ba_ext h1.symm
  · rintro rfl
    exact ⟨_, rfl⟩
theorem slt_msg (a : ByteArray) (n m : Nat) (hn : n < 1000000) (hm : m < 1000000) : slt (msgB a n) (msgB a m) = decide (n < m) := by
  have e : ∀ n, n < 1000000 → (msgB a n).toList = (109 :: 47 :: (a.data.toList ++ [47])) ++ esix n := fun n hn => by
    unfold msgB
    rw [ByteArray.toList_eq, app_data, app_data, app_data, app_data, show (six n).data.toList = esix (n % 1000000) from rfl, Nat.mod_eq_of_lt hn]; rfl
  unfold slt
  rw [e n hn, e m hm, bl_same, bl_six n m hn hm]
end Go.Proofs.YtagcmjmcjpjihaaGreatDoor
namespace Go.Proofs.YtagcmjmcjpjihaaGreatDoor
open Go.RowKit
end Go.Proofs.YtagcmjmcjpjihaaGreatDoor
namespace Go.Proofs.YtagcmjmcjpjihaaGreatDoor
open Go.RowKit
/-- What digits say. -/
def valL (l : List UInt8) : Nat := l.foldl (fun n c => 10 * n + (c.toNat - 48)) 0
theorem valL_snoc (l : List UInt8) (c : UInt8) : valL (l ++ [c]) = 10 * valL l + (c.toNat - 48) := by unfold valL; rw [List.foldl_append]; rfl
def digL (c : UInt8) : Prop := 48 ≤ c.toNat ∧ c.toNat ≤ 57
theorem d8_back (c : UInt8) (h : digL c) : c = d8 (c.toNat - 48) := by
  unfold digL at h
  exact UInt8.toNat_inj.1 (by rw [d8_toNat _ (by omega)]; omega)
theorem valL_dec (n : Nat) : valL (Lib.decDigits n) = n := by
  induction n using Nat.strongRecOn with
  | ind n ih =>
    by_cases h10 : n < 10
    · rw [dec_one n h10]
      show 10 * 0 + ((d8 n).toNat - 48) = n
      rw [d8_toNat n h10]; omega
    · rw [dec_step n h10, valL_snoc, ih (n / 10) (by omega), d8_toNat _ (by omega)]; omega
theorem valL_pos : ∀ (r : List UInt8) (c : UInt8), digL c → c ≠ 48 → 1 ≤ valL (c :: r) := by
  have aux : ∀ (r : List UInt8) (n : Nat), 1 ≤ n → 1 ≤ r.foldl (fun n c => 10 * n + (c.toNat - 48)) n := by
    intro r
    induction r with
    | nil => intro n h; exact h
    | cons x r ih => intro n h; exact ih (10 * n + (x.toNat - 48)) (by omega)
  intro r c hc h48
  refine aux r _ ?_
  have : c.toNat ≠ 48 := fun e => h48 (UInt8.toNat_inj.1 e)
  unfold digL at hc
  show 1 ≤ 10 * 0 + (c.toNat - 48)
  omega
theorem dec_valL (l : List UInt8) (hne : l ≠ []) (hd : ∀ c ∈ l, digL c) (h0 : ∀ c r, l = c :: r → r ≠ [] → c ≠ 48) : Lib.decDigits (valL l) = l := by
  induction hl : l.length using Nat.strongRecOn generalizing l with
  | ind n ih =>
    obtain ⟨l', c, rfl⟩ : ∃ l' c, l = l' ++ [c] := ⟨l.dropLast, l.getLast hne, (List.dropLast_concat_getLast hne).symm⟩
    have hc := hd c (by simp)
    rw [valL_snoc]
    cases l' with
    | nil =>
      show Lib.decDigits (10 * 0 + (c.toNat - 48)) = [c]
      have h1 : c.toNat - 48 < 10 := by unfold digL at hc; omega
      rw [Nat.mul_zero, Nat.zero_add, dec_one _ h1, ← d8_back c hc]
    | cons x r =>
      have hx : x ≠ 48 := h0 x (r ++ [c]) rfl (by simp)
      have hp := valL_pos r x (hd x (by simp)) hx
      have ih' := ih (x :: r).length (by rw [← hl]; simp) (x :: r) (by simp) (fun c hc => hd c (by simp only [List.mem_append]; exact .inl hc)) (fun c' r' e _ => by injection e with e _; rw [← e]; exact hx) rfl
      have hc' := hc
      unfold digL at hc'
      rw [dec_step _ (by omega), show (10 * valL (x :: r) + (c.toNat - 48)) / 10 = valL (x :: r) from by omega, show (10 * valL (x :: r) + (c.toNat - 48)) % 10 = c.toNat - 48 from by omega, ih', ← d8_back c hc]
/-- Which texts are a number up to most, as it is written. -/
def NumOk (s : ByteArray) (most n : Nat) : Prop := n ≤ most ∧ s = itoaB n
theorem NumOk.val {s : ByteArray} {most n : Nat} (h : NumOk s most n) : valL s.data.toList = n := by rw [h.2, itoaB_list, valL_dec]
theorem NumOk.of {s : ByteArray} {most : Nat} (h1 : 1 ≤ s.size) (hd : ∀ c ∈ s.data.toList, digL c) (h0 : ∀ c r, s.data.toList = c :: r → r ≠ [] → c ≠ 48) (hm : valL s.data.toList ≤ most) : NumOk s most (valL s.data.toList) :=
  ⟨hm, ba_ext (by
    have hs : s.size = s.data.toList.length := by simp
    have hne : s.data.toList ≠ [] := fun e => by
      have h2 : s.size = 0 := by rw [hs, e]; rfl
      omega
    rw [itoaB_list, dec_valL _ hne hd h0])⟩
end Go.Proofs.YtagcmjmcjpjihaaGreatDoor
