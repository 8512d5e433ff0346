/- Numerals, as lists of bytes: which stand for themselves. No program. -/
import Derived.Test.YtmjdgcgmlgbfjaaDoorRow3
set_option linter.unusedVariables false
set_option linter.unusedSimpArgs false
namespace Go.Proofs.YtmjdgcgmlgbfjaaDoor
open Go.RowKit
/-- What digits say. -/
def valL (l : List UInt8) : Nat := l.foldl (fun n c => 10 * n + (c.toNat - 48)) 0
theorem valL_snoc (l : List UInt8) (c : UInt8) : valL (l ++ [c]) = 10 * valL l + (c.toNat - 48) := by unfold valL; rw [List.foldl_append]; rfl
def digL (c : UInt8) : Prop := 48 ≤ c.toNat ∧ c.toNat ≤ 57
theorem d8_back (c : UInt8) (h : digL c) : c = d8 (c.toNat - 48) := by
  unfold digL at h
  exact UInt8.toNat_inj.1 (by rw [d8_toNat _ (by omega)]; omega)
theorem valL_dec (n : Nat) : valL (Lib.decDigits n) = n := by
  induction n using Nat.strongRecOn with
  | ind n ih =>
    by_cases h10 : n < 10
    · rw [dec_one n h10]
      show 10 * 0 + ((d8 n).toNat - 48) = n
      rw [d8_toNat n h10]; omega
    · rw [dec_step n h10, valL_snoc, ih (n / 10) (by omega), d8_toNat _ (by omega)]; omega
theorem dec_head (n : Nat) (h : 10 ≤ n) : ∀ c r, Lib.decDigits n = c :: r → c ≠ 48 := by
  induction n using Nat.strongRecOn with
  | ind n ih =>
    intro c r hc
    rw [dec_step n (by omega)] at hc
    by_cases h10 : n / 10 < 10
    · rw [dec_one _ h10] at hc
      injection hc with hc _
      rw [← hc]
      intro e
      have := congrArg UInt8.toNat e
      rw [d8_toNat _ h10, show UInt8.toNat 48 = 48 from rfl] at this
      omega
    · cases hd : Lib.decDigits (n / 10) with
      | nil => exact absurd hd (dec_ne _)
      | cons c' r' =>
        rw [hd] at hc
        injection hc with hc _
        rw [← hc]
        exact ih (n / 10) (by omega) (by omega) c' r' hd
theorem valL_pos : ∀ (r : List UInt8) (c : UInt8), digL c → c ≠ 48 → 1 ≤ valL (c :: r) := by
  have aux : ∀ (r : List UInt8) (n : Nat), 1 ≤ n → 1 ≤ r.foldl (fun n c => 10 * n + (c.toNat - 48)) n := by
    intro r
    induction r with
    | nil => intro n h; exact h
    | cons x r ih => intro n h; exact ih (10 * n + (x.toNat - 48)) (by omega)
  intro r c hc h48
  refine aux r _ ?_
  have : c.toNat ≠ 48 := fun e => h48 (UInt8.toNat_inj.1 e)
  unfold digL at hc
  show 1 ≤ 10 * 0 + (c.toNat - 48)
  omega
theorem dec_valL (l : List UInt8) (hne : l ≠ []) (hd : ∀ c ∈ l, digL c) (h0 : ∀ c r, l = c :: r → r ≠ [] → c ≠ 48) : Lib.decDigits (valL l) = l := by
  induction hl : l.length using Nat.strongRecOn generalizing l with
  | ind n ih =>
    obtain ⟨l', c, rfl⟩ : ∃ l' c, l = l' ++ [c] := ⟨l.dropLast, l.getLast hne, (List.dropLast_concat_getLast hne).symm⟩
    have hc := hd c (by simp)
    rw [valL_snoc]
    cases l' with
    | nil =>
      show Lib.decDigits (10 * 0 + (c.toNat - 48)) = [c]
      have h1 : c.toNat - 48 < 10 := by unfold digL at hc; omega
      rw [Nat.mul_zero, Nat.zero_add, dec_one _ h1, ← d8_back c hc]
    | cons x r =>
      have hx : x ≠ 48 := h0 x (r ++ [c]) rfl (by simp)
      have hp := valL_pos r x (hd x (by simp)) hx
      have ih' := ih (x :: r).length (by rw [← hl]; simp) (x :: r) (by simp) (fun c hc => hd c (by simp only [List.mem_append]; exact .inl hc)) (fun c' r' e _ => by injection e with e _; rw [← e]; exact hx) rfl
      have hc' := hc
      unfold digL at hc'
      rw [dec_step _ (by omega), show (10 * valL (x :: r) + (c.toNat - 48)) / 10 = valL (x :: r) from by omega, show (10 * valL (x :: r) + (c.toNat - 48)) % 10 = c.toNat - 48 from by omega, ih', ← d8_back c hc]
/-- Which texts are a number up to most, as it is written. -/
def NumOk (s : ByteArray) (most n : Nat) : Prop := n ≤ most ∧ s = itoaB n
theorem NumOk.val {s : ByteArray} {most n : Nat} (h : NumOk s most n) : valL s.data.toList = n := by rw [h.2, itoaB_list, valL_dec]
theorem NumOk.digits {s : ByteArray} {most n : Nat} (h : NumOk s most n) : ∀ c ∈ s.data.toList, digL c := by rw [h.2, itoaB_list]; exact dec_mem n
theorem NumOk.of {s : ByteArray} {most : Nat} (h1 : 1 ≤ s.size) (hd : ∀ c ∈ s.data.toList, digL c) (h0 : ∀ c r, s.data.toList = c :: r → r ≠ [] → c ≠ 48) (hm : valL s.data.toList ≤ most) : NumOk s most (valL s.data.toList) :=
  ⟨hm, ba_ext (by
    have hs : s.size = s.data.toList.length := by simp
    have hne : s.data.toList ≠ [] := fun e => by
      have h2 : s.size = 0 := by rw [hs, e]; rfl
      omega
    rw [itoaB_list, dec_valL _ hne hd h0])⟩
open Classical in
/-- What a text says as a number up to most; below 0: it says none. -/
noncomputable def natZ (s : ByteArray) (most : Nat) : Int := if ∃ n, NumOk s most n then (valL s.data.toList : Int) else -1
theorem natZ_yes {s : ByteArray} {most n : Nat} (h : NumOk s most n) : natZ s most = n := by
  unfold natZ; rw [if_pos ⟨n, h⟩, h.val]
theorem natZ_no {s : ByteArray} {most : Nat} (h : ¬ ∃ n, NumOk s most n) : natZ s most = -1 := if_neg h
theorem valL_take (l : List UInt8) (k : Nat) (h : k < l.length) : valL (l.take (k + 1)) = 10 * valL (l.take k) + (l[k].toNat - 48) := by
  rw [List.take_succ_eq_append_getElem h, valL_snoc]
theorem valL_lt : ∀ (k : Nat) (l : List UInt8), (∀ c ∈ l, digL c) → l.length ≤ k → valL l < 10 ^ k
  | k, l, hd, hk => by
    induction hl : l.length generalizing l k with
    | zero =>
      rw [List.length_eq_zero_iff.1 hl]
      exact Nat.pos_of_ne_zero (by simp)
    | succ n ih =>
      have hne : l ≠ [] := fun e => by rw [e] at hl; cases hl
      obtain ⟨l', c, rfl⟩ : ∃ l' c, l = l' ++ [c] := ⟨l.dropLast, l.getLast hne, (List.dropLast_concat_getLast hne).symm⟩
      rw [valL_snoc]
      have hc := hd c (by simp)
      unfold digL at hc
      rw [List.length_append] at hk hl
      cases k with
      | zero => simp at hk
      | succ k =>
        have := ih k l' (fun c hc => hd c (List.mem_append_left _ hc)) (by simpa using hk) (by simpa using hl)
        rw [Nat.pow_succ]; omega
theorem ba_list (s : ByteArray) (i : Nat) (h : i < s.size) : s.data.toList[i]'(by simpa using h) = s[i] := rfl
set_option maxHeartbeats 2000000 in
set_option maxRecDepth 100000 in
theorem natural_any (s : ByteArray) (most : Nat) (w : World) (hm : most ≤ 2000000) (hs : s.size ≤ 200) : Calls Tryd.prog 54 #[.string s, .int .i64 most] w fun e w' => e = .returned (.int .i64 (natZ s most)) ∧ w' = w := by
  have hsl : s.data.toList.length = s.size := by simp
  by_cases h9 : 1 ≤ s.size ∧ s.size ≤ 9
  · have h0 : 0 < s.size := by omega
    by_cases hz : s[0] = 48 ∧ 1 < s.size
    · obtain ⟨hz1, hz2⟩ := hz
      have hno : natZ s most = -1 := natZ_no (by
        rintro ⟨n, hn⟩
        have e := hn.2
        have hl : s.data.toList = Lib.decDigits n := by rw [e, itoaB_list]
        by_cases h10 : n < 10
        · rw [dec_one n h10] at hl
          rw [hl] at hsl; simp at hsl; omega
        · cases hd : Lib.decDigits n with
          | nil => exact dec_ne n hd
          | cons c r =>
            refine dec_head n (by omega) c r hd ?_
            have : s.data.toList[0]'(by omega) = c := by
              have h2 : s.data.toList[0]? = some c := by rw [hl, hd]; rfl
              exact (List.getElem?_eq_some_iff.1 h2).2
            rw [← this]; exact hz1)
      rw [hno]
      have hc : (((s[0]'h0).toNat : Int) == 48) = true := by rw [hz1]; rfl
      go_enter Tryd.func54, Tryd.ntmps54
      go_wp2
      all_goals first | (exfalso; omega) | (go_ret; exact ⟨rfl, rfl⟩)
    · have hg : (((s[0]'h0).toNat : Int) == 48) = false ∨ ((((s[0]'h0).toNat : Int) == 48) = true ∧ s.size = 1) := by
        by_cases h48 : s[0]'h0 = 48
        · right; exact ⟨by rw [h48]; rfl, by have : ¬ 1 < s.size := fun h => hz ⟨h48, h⟩; omega⟩
        · left
          have : (s[0]'h0).toNat ≠ 48 := fun e => h48 (UInt8.toNat_inj.1 e)
          simp only [beq_eq_false_iff_ne]; omega
      have hlead : ∀ c r, s.data.toList = c :: r → r ≠ [] → c ≠ 48 := fun c r hcr hr e => hz ⟨by
        have h2 : s.data.toList[0]? = some c := by rw [hcr]; rfl
        have h3 := (List.getElem?_eq_some_iff.1 h2).2
        rw [← e]; exact h3, by
        have : 0 < r.length := List.length_pos_iff.2 hr
        rw [← hsl, hcr, List.length_cons]; omega⟩
      have HL := Lib.hid hlead
      clear hlead hz
      rcases hg with hg | ⟨hg, hg1⟩
      all_goals
        go_enter Tryd.func54, Tryd.ntmps54
        go_wp2
        all_goals (try (exfalso; omega))
        go_loop [5, 6] (fun v i => ∃ k : Nat, k ≤ s.size ∧ i = .int .i64 k ∧ v = .int .i64 (valL (s.data.toList.take k)) ∧ Hid (∀ j (h : j < s.size), j < k → digL s[j])) (fun v i => s.size - (intOf i).toNat)
        case atStart => exact ⟨0, by omega, rfl, rfl, Lib.hid (fun j _ h => by omega)⟩
        case round =>
          obtain ⟨k, hk, rfl, rfl, HI⟩ := hrel
          have hdk : ∀ c ∈ s.data.toList.take k, digL c := fun c hc => by
            obtain ⟨j, hj, rfl⟩ := List.getElem_of_mem hc
            rw [List.length_take] at hj
            rw [List.getElem_take]
            exact HI.out j (by omega) (by omega)
          have hvb := valL_lt 9 (s.data.toList.take k) hdk (by rw [List.length_take]; omega)
          by_cases hlt : k < s.size
          · have hsn := valL_take s.data.toList k (by omega)
            rw [ba_list s k hlt] at hsn
            have HS := Lib.hid hsn
            clear hsn hdk
            generalize valL (s.data.toList.take k) = v at *
            go_wp2
            all_goals first
              | (go_ret; refine ⟨?_, rfl⟩; rw [natZ_no (fun ⟨n, hn⟩ => by have := hn.digits _ (List.getElem_mem (l := s.data.toList) (n := k) (by omega)); rw [ba_list s k hlt] at this; unfold digL at this; omega)]; rfl)
              | (refine ⟨⟨k + 1, by omega, by go_num, ?_, Lib.hid (fun j hj h => ?_)⟩, by simp [intOf]; omega⟩
                 · rw [HS.out]; congr 1 <;> omega
                 · rcases Nat.lt_or_ge j k with h3 | h3
                   · exact HI.out j hj h3
                   · obtain rfl : j = k := by omega
                     unfold digL; omega)
          · have hkn : k = s.size := by omega
            have hall : ∀ c ∈ s.data.toList, digL c := by
              rw [hkn, ← hsl, List.take_length] at hdk; exact hdk
            have hv : valL (s.data.toList.take k) = valL s.data.toList := by rw [hkn, ← hsl, List.take_length]
            rw [hv] at hvb ⊢
            by_cases hmo : valL s.data.toList ≤ most
            · have hy := natZ_yes (NumOk.of (by omega) hall HL.out hmo)
              generalize valL s.data.toList = v at *
              have HY := Lib.hid hy
              clear hv hy hall hdk
              go_wp2
              all_goals first | (exfalso; omega) | (go_ret; refine ⟨?_, rfl⟩; rw [HY.out]; rfl) | (go_ret; refine ⟨?_, rfl⟩; rw [HY.out])
            · have hy := natZ_no (s := s) (most := most) (fun ⟨n, hn⟩ => hmo (by rw [hn.val]; exact hn.1))
              generalize valL s.data.toList = v at *
              have HY := Lib.hid hy
              clear hv hy hall hdk
              go_wp2
              all_goals first | (exfalso; omega) | (go_ret; refine ⟨?_, rfl⟩; rw [HY.out]; rfl) | (go_ret; refine ⟨?_, rfl⟩; rw [HY.out])
  · have hno : natZ s most = -1 := natZ_no (by
      rintro ⟨n, h1, h2⟩
      apply h9
      have h3 := itoaB_size 6 n (by omega)
      have h4 : Lib.decDigits n ≠ [] := dec_ne n
      have h5 : s.size = (Lib.decDigits n).length := by rw [← hsl, h2, itoaB_list]
      have h6 : (Lib.decDigits n).length ≠ 0 := fun e => h4 (List.length_eq_zero_iff.1 e)
      rw [← h2] at h3
      omega)
    rw [hno]
    go_enter Tryd.func54, Tryd.ntmps54
    go_wp2
    all_goals first | (exfalso; omega) | (go_ret; exact ⟨rfl, rfl⟩)
end Go.Proofs.YtmjdgcgmlgbfjaaDoor
