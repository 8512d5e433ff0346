/- Package row: numbers, as they are written; words. -/
import Derived.Test.YtmjdgcgmlgbfjaaDoorRow2
set_option linter.unusedVariables false
set_option linter.unusedSimpArgs false
namespace Go.Proofs.YtmjdgcgmlgbfjaaDoor
open Go.RowKit
theorem parse_append (b : List UInt8) : ∀ (a : List UInt8) (acc u : Nat), Lib.parseUint10 acc a = .ok u → Lib.parseUint10 acc (a ++ b) = Lib.parseUint10 u b
  | [], acc, u, h => by
    simp only [Lib.parseUint10] at h
    injection h with h
    subst h; rfl
  | c :: r, acc, u, h => by
    rw [List.cons_append]
    simp only [Lib.parseUint10] at h ⊢
    split at h
    · split at h
      · cases h
      · split at h
        · cases h
        · rename_i h1 h2 h3
          rw [if_pos h1, if_neg h2, if_neg h3]
          exact parse_append b r _ u h
    · cases h
theorem parse_dec (n : Nat) (h : n < 100000000000000000) : Lib.parseUint10 0 (Lib.decDigits n) = .ok n := by
  induction n using Nat.strongRecOn with
  | ind n ih =>
    by_cases h10 : n < 10
    · rw [dec_one n h10, parse_digit 0 n [] h10 (by omega), Nat.zero_mul, Nat.zero_add]; rfl
    · rw [dec_step n h10, parse_append _ _ _ _ (ih (n / 10) (by omega) (by omega)), parse_digit _ _ _ (by omega) (by omega)]
      simp only [Lib.parseUint10]
      congr 1; omega
theorem dec_mem (n : Nat) : ∀ c ∈ Lib.decDigits n, 48 ≤ c.toNat ∧ c.toNat ≤ 57 := by
  induction n using Nat.strongRecOn with
  | ind n ih =>
    intro c hc
    by_cases h10 : n < 10
    · rw [dec_one n h10, List.mem_singleton] at hc
      rw [hc, d8_toNat n h10]; omega
    · rw [dec_step n h10, List.mem_append, List.mem_singleton] at hc
      rcases hc with hc | hc
      · exact ih (n / 10) (by omega) c hc
      · rw [hc, d8_toNat _ (by omega)]; omega
theorem dec_ne (n : Nat) : Lib.decDigits n ≠ [] := by
  by_cases h10 : n < 10
  · rw [dec_one n h10]; simp
  · rw [dec_step n h10]; simp
theorem dec_len : ∀ (k n : Nat), n < 10 ^ (k + 1) → (Lib.decDigits n).length ≤ k + 1
  | 0, n, h => by rw [dec_one n (by simpa using h)]; simp
  | k + 1, n, h => by
    by_cases h10 : n < 10
    · rw [dec_one n h10]; simp
    · rw [dec_step n h10, List.length_append]
      have := dec_len k (n / 10) (by rw [Nat.pow_succ] at h; omega)
      simp; omega
theorem itoaB_list (n : Nat) : (itoaB n).data.toList = Lib.decDigits n := by unfold itoaB; rw [Lib.itoa_nonneg]
theorem atoiV_dec (n : Nat) (h : n < 100000000000000000) : atoiV (itoaB n) = some (n : Int) := by
  have e : Lib.atoiAll (itoaB n).data.toList = .ok (n : Int) := by
    rw [itoaB_list]
    have hp := parse_dec n h
    have hm := dec_mem n
    have hne := dec_ne n
    generalize Lib.decDigits n = l at *
    cases l with
    | nil => exact absurd rfl hne
    | cons c r =>
      have hc := hm c (List.mem_cons_self ..)
      unfold Lib.atoiAll
      dsimp only
      rw [if_neg (by omega)]
      unfold Lib.parseMag
      rw [if_neg (by simp), hp]
      dsimp only
      rw [if_neg (by omega), if_neg (by omega), if_neg (by omega)]
  unfold atoiV
  rw [e]
theorem itoaB_size (k n : Nat) (h : n < 10 ^ (k + 1)) : (itoaB n).size ≤ k + 1 := by
  have := dec_len k n h
  rw [← itoaB_list] at this
  simpa using this
theorem itoaB_nosp (n : Nat) : (32 : UInt8) ∉ (itoaB n).data.toList := fun h => by
  rw [itoaB_list] at h
  have := (dec_mem n _ h).1
  rw [show UInt8.toNat 32 = 32 from rfl] at this
  omega
theorem name_nosp {a : ByteArray} (h : NameOk a) : (32 : UInt8) ∉ a.data.toList := fun hm => by
  obtain ⟨i, hi, he⟩ := List.getElem_of_mem hm
  have := h.2.2 i (by simpa using hi)
  have e : a[i]'(by simpa using hi) = 32 := by rw [← he]; rfl
  rw [e] at this
  unfold OkAt at this
  rw [show UInt8.toNat 32 = 32 from rfl] at this
  omega
set_option maxHeartbeats 1000000 in
set_option maxRecDepth 100000 in
theorem number_ok (n : Nat) (most : Int) (w : World) (h : LibOk w) (hn : (n : Int) ≤ most) (hm : most ≤ 2000000) : Calls Tryd.prog 52 #[.string (itoaB n), .int .i64 most] w fun e w' => e = .returned (.tuple #[.int .i64 n, .bool true]) ∧ Ext w w' := by
  have hs := itoaB_size 6 n (by omega)
  have HA := fun w (h : LibOk w) => atoi_ok (itoaB n) n w (by omega) (atoiV_dec n (by omega))
  have HI := fun w (h : LibOk w) => itoa_any n w h (by omega) (by omega)
  have hx := Ext.refl w
  generalize itoaB (n : Int) = s at *
  go_enter Tryd.func52, Tryd.ntmps52
  go_wp2_with (first | (go_at_call 49; (with_reducible apply Calls.mono (HA _ h); rintro e8 w8 ⟨rfl, hx8⟩; replace h := h.ext hx8; replace hx := hx.trans hx8; clear hx8; dsimp only)) | (go_at_call 45; (with_reducible apply Calls.mono (HI _ h); rintro e8 w8 ⟨rfl, hx8⟩; replace h := h.ext hx8; replace hx := hx.trans hx8; clear hx8; dsimp only)))
  all_goals first | (exfalso; omega) | (go_ret2; exact ⟨rfl, hx⟩)
/-! Words. -/
def sp : ByteArray := ⟨#[32]⟩
theorem indexB_hit (x r : ByteArray) (h : (32 : UInt8) ∉ x.data.toList) : Lib.indexB (x ++ sp ++ r) sp = x.size := by
  unfold Lib.indexB
  have e : (x ++ sp ++ r).data.toList = x.data.toList ++ 32 :: r.data.toList := by rw [app_data, app_data, List.append_assoc]; rfl
  rw [e, show sp.data.toList = [32] from rfl, index_hit 32 _ _ h]
  simp
theorem indexB_miss (x : ByteArray) (h : (32 : UInt8) ∉ x.data.toList) : Lib.indexB x sp = -1 := by
  unfold Lib.indexB
  rw [show sp.data.toList = [32] from rfl, index_miss 32 _ h]
theorem split_hit (x r : ByteArray) (k : Nat) (h : (32 : UInt8) ∉ x.data.toList) : Lib.splitB sp 0 (k + 1) (x ++ sp ++ r) = x :: Lib.splitB sp 0 k r := by
  rw [Lib.splitB_hit sp 0 k _ _ (indexB_hit x r h)]
  have e : (x ++ sp ++ r).data.toList = x.data.toList ++ 32 :: r.data.toList := by rw [app_data, app_data, List.append_assoc]; rfl
  have e1 : (x ++ sp ++ r).extract 0 (x.size + 0) = x := ba_ext (by
    rw [Lib.extract_from_zero, e]
    have : x.size = x.data.toList.length := by simp
    rw [Nat.add_zero, this, List.take_left])
  have e2 : (x ++ sp ++ r).extract (x.size + sp.size) (x ++ sp ++ r).size = r := ba_ext (by
    have hl : (x ++ sp ++ r).size = x.size + 1 + r.size := by rw [ByteArray.size_append, ByteArray.size_append]; rfl
    rw [ByteArray.data_extract, Array.toList_extract, hl, e]
    have hx : x.size = x.data.toList.length := by simp
    have hr : r.size = r.data.toList.length := by simp
    rw [show sp.size = 1 from rfl, List.extract_eq_take_drop, hx, hr, ← List.drop_drop, List.drop_left]
    simp only [List.drop_succ_cons, List.drop_zero]
    rw [List.take_of_length_le (by omega)])
  rw [e1, e2]
theorem count_hit' (x r : ByteArray) (h : (32 : UInt8) ∉ x.data.toList) : Lib.countB (x ++ sp ++ r) sp = 1 + Lib.countB r sp := by
  rw [Lib.countB_hit _ _ _ (by decide) (indexB_hit x r h)]
  congr 2
  exact ba_ext (by
    have e : (x ++ sp ++ r).data.toList = x.data.toList ++ 32 :: r.data.toList := by rw [app_data, app_data, List.append_assoc]; rfl
    have hl : (x ++ sp ++ r).size = x.size + 1 + r.size := by rw [ByteArray.size_append, ByteArray.size_append]; rfl
    rw [ByteArray.data_extract, Array.toList_extract, hl, e]
    have hx : x.size = x.data.toList.length := by simp
    have hr : r.size = r.data.toList.length := by simp
    rw [show sp.size = 1 from rfl, List.extract_eq_take_drop, hx, hr, ← List.drop_drop, List.drop_left]
    simp only [List.drop_succ_cons, List.drop_zero]
    rw [List.take_of_length_le (by omega)])
end Go.Proofs.YtmjdgcgmlgbfjaaDoor
