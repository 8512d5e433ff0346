/- The reference's keys: what makes and checks them. -/
import Derived.Test.YtmjdgcgmlgbfjaaDoorRow6
import Derived.Test.YtmjdgcgmlgbfjaaDoorKeyC
set_option linter.unusedVariables false
set_option linter.unusedSimpArgs false
namespace Go.Proofs.YtmjdgcgmlgbfjaaDoor
open Go.RowKit
set_option maxHeartbeats 1000000 in
theorem messageKey_any (a : ByteArray) (n : Int) (w : World) (ha : a.size ≤ 1000) : Calls Tryd.prog 18 #[.string a, .int .i64 n] w fun e w' => e = .returned (.string (msgB a n.toNat)) ∧ Ext w w' := by
  have hz := six_size n.toNat
  have key : ∀ w, Calls Tryd.prog 47 #[.int .i64 (max 0 n)] w fun e w' => e = .returned (.string (six n.toNat)) ∧ Ext w w' := fun w => by
    rw [show max 0 n = (n.toNat : Int) from by omega]; exact rsix_any n.toNat w
  have fin : ((⟨#[109, 47]⟩ ++ a) ++ ⟨#[47]⟩) ++ six n.toNat = msgB a n.toNat := ba_ext (by unfold msgB; rw [app_data, app_data, app_data, app_data, app_data, app_data, app_data]; simp only [List.append_assoc]; rfl)
  generalize six n.toNat = y at *
  go_enter Tryd.func18, Tryd.ntmps18
  go_wp2_with (go_at_call 47; with_reducible apply Calls.mono (key _); rintro e8 w8 ⟨rfl, hx⟩; dsimp only)
  all_goals first | (exfalso; omega) | (go_ret; exact ⟨rfl, hx⟩)
set_option maxHeartbeats 1000000 in
theorem messagesSpan_any (a : ByteArray) (w : World) (ha : a.size ≤ 1000) : Calls Tryd.prog 20 #[.string a] w fun e w' => e = .returned (.agg #[.string (loB a), .string (hiB a)]) ∧ Ext w w' := by
  have e1 : (⟨#[109, 47]⟩ ++ a) ++ ⟨#[47]⟩ = loB a := ba_ext (by unfold loB; rw [app_data, app_data, app_data, app_data, app_data]; rfl)
  have e2 : (⟨#[109, 47]⟩ ++ a) ++ ⟨#[48]⟩ = hiB a := ba_ext (by unfold hiB; rw [app_data, app_data, app_data, app_data, app_data]; rfl)
  have E1 := Lib.hid e1
  have E2 := Lib.hid e2
  clear e1 e2
  go_enter Tryd.func20, Tryd.ntmps20
  go_wp2
  refine bodyPost_ret (v := .agg #[.string (loB a), .string (hiB a)]) ?_ rfl ⟨rfl, ?_⟩
  · simp [results, Tryd.results20, go_sem, ← E1.out, ← E2.out]
  · exact (Ext.refl _).alloc _
/-! A key, cut by places. -/
theorem ext_list (k : ByteArray) (i j : Nat) : (k.extract i j).data.toList = (k.data.toList.take j).drop i := by
  rw [ByteArray.data_extract, Array.toList_extract, List.extract_eq_take_drop, List.drop_take]
theorem key_split (k : ByteArray) (i : Nat) (h : i ≤ k.size) : k = k.extract 0 i ++ k.extract i k.size := ba_ext (by
  rw [app_data, ext_list, ext_list, List.drop_zero]
  have : k.size = k.data.toList.length := by simp
  rw [this, List.take_length, List.take_append_drop])
theorem six_of_digits (l : List UInt8) (hl : l.length = 6) (hd : ∀ c ∈ l, 48 ≤ c.toNat ∧ c.toNat ≤ 57) : ∃ m, m < 1000000 ∧ l = esix m := by
  match l, hl with
  | [a, b, c, d, e, f], _ =>
    have ha := hd a (by simp)
    have hb := hd b (by simp)
    have hc := hd c (by simp)
    have hd' := hd d (by simp)
    have he := hd e (by simp)
    have hf := hd f (by simp)
    have back : ∀ x : UInt8, 48 ≤ x.toNat → x.toNat ≤ 57 → x = d8 (x.toNat - 48) := fun x h1 h2 => UInt8.toNat_inj.1 (by rw [d8_toNat _ (by omega)]; omega)
    have mk : ∀ x : UInt8, 48 ≤ x.toNat ∧ x.toNat ≤ 57 → ∃ y, y < 10 ∧ x = d8 y := fun x h => ⟨x.toNat - 48, by omega, back x h.1 h.2⟩
    obtain ⟨x1, h1, rfl⟩ := mk a ha
    obtain ⟨x2, h2, rfl⟩ := mk b hb
    obtain ⟨x3, h3, rfl⟩ := mk c hc
    obtain ⟨x4, h4, rfl⟩ := mk d hd'
    obtain ⟨x5, h5, rfl⟩ := mk e he
    obtain ⟨x6, h6, rfl⟩ := mk f hf
    refine ⟨((((x1 * 10 + x2) * 10 + x3) * 10 + x4) * 10 + x5) * 10 + x6, by omega, ?_⟩
    unfold esix
    rw [show (((((x1 * 10 + x2) * 10 + x3) * 10 + x4) * 10 + x5) * 10 + x6) / 100000 % 10 = x1 from by omega, show (((((x1 * 10 + x2) * 10 + x3) * 10 + x4) * 10 + x5) * 10 + x6) / 10000 % 10 = x2 from by omega,
      show (((((x1 * 10 + x2) * 10 + x3) * 10 + x4) * 10 + x5) * 10 + x6) / 1000 % 10 = x3 from by omega, show (((((x1 * 10 + x2) * 10 + x3) * 10 + x4) * 10 + x5) * 10 + x6) / 100 % 10 = x4 from by omega,
      show (((((x1 * 10 + x2) * 10 + x3) * 10 + x4) * 10 + x5) * 10 + x6) / 10 % 10 = x5 from by omega, show (((((x1 * 10 + x2) * 10 + x3) * 10 + x4) * 10 + x5) * 10 + x6) % 10 = x6 from by omega]
theorem esix_digits (m : Nat) : ∀ c ∈ esix m, 48 ≤ c.toNat ∧ c.toNat ≤ 57 := by
  unfold esix
  intro c hc
  simp only [List.mem_cons, List.not_mem_nil, or_false] at hc
  rcases hc with rfl | rfl | rfl | rfl | rfl | rfl <;> (rw [d8_toNat _ (by omega)]; omega)
def head2 (k : ByteArray) : ByteArray := k.extract 0 2
def rest2 (k : ByteArray) : ByteArray := k.extract 2 k.size
def mid (k : ByteArray) : ByteArray := k.extract 2 (k.size - 7)
/-- Is each of the last six a digit? -/
def Tail6 (k : ByteArray) : Prop := ∀ i (h : i < k.size), k.size - 6 ≤ i → 48 ≤ k[i].toNat ∧ k[i].toNat ≤ 57
theorem ba_get (k : ByteArray) (i : Nat) (h : i < k.size) : k[i] = k.data.toList[i]'(by simpa using h) := rfl
theorem head2_list (k : ByteArray) : (head2 k).data.toList = k.data.toList.take 2 := by unfold head2; rw [ext_list, List.drop_zero]
theorem rest2_list (k : ByteArray) : (rest2 k).data.toList = k.data.toList.drop 2 := by
  unfold rest2
  rw [ext_list, show k.size = k.data.toList.length from by simp, List.take_length]
theorem key_tq (k : ByteArray) (x : ByteArray) (hx : x.size = 1) (h : head2 k = x ++ slash) : k = x ++ slash ++ rest2 k := ba_ext (by
  rw [app_data, ← h, head2_list, rest2_list, List.take_append_drop])
theorem rest2_app (x r : ByteArray) (hx : x.size = 1) : rest2 (x ++ slash ++ r) = r := ba_ext (by
  rw [rest2_list, app_data, app_data, show (x.data.toList ++ slash.data.toList ++ r.data.toList) = (x.data.toList ++ slash.data.toList) ++ r.data.toList from rfl]
  have : (x.data.toList ++ slash.data.toList).length = 2 := by
    rw [List.length_append]
    have h1 : x.data.toList.length = 1 := by simpa using hx
    rw [h1]; rfl
  rw [← this, List.drop_left])
theorem KeyOk_tq (k : ByteArray) (h : head2 k = tB ++ slash ∨ head2 k = qB ++ slash) : KeyOk k ↔ NameOk (rest2 k) := by
  rcases h with h | h
  · have e := key_tq k tB rfl h
    constructor
    · intro hk
      have := (KeyOk_cut k).1 hk
      have hc : cutB k slash = (tB, rest2 k, true) := by
        generalize rest2 k = r at e
        rw [e]; exact cutB_hit tB _ (by decide)
      rw [hc] at this
      rcases this.2 with h2 | h2
      · exact h2.2
      · exact absurd (show tB = mB from h2.1) (by decide)
    · intro hn
      exact .inl ⟨_, hn, .inl e⟩
  · have e := key_tq k qB rfl h
    constructor
    · intro hk
      have := (KeyOk_cut k).1 hk
      have hc : cutB k slash = (qB, rest2 k, true) := by
        generalize rest2 k = r at e
        rw [e]; exact cutB_hit qB _ (by decide)
      rw [hc] at this
      rcases this.2 with h2 | h2
      · exact h2.2
      · exact absurd (show qB = mB from h2.1) (by decide)
    · intro hn
      exact .inl ⟨_, hn, .inr e⟩
theorem mid_list (k : ByteArray) : (mid k).data.toList = (k.data.toList.take (k.size - 7)).drop 2 := by unfold mid; rw [ext_list]
theorem list_four (l : List UInt8) (h : 10 ≤ l.length) (hl : l.length - 7 < l.length) : l = l.take 2 ++ ((l.take (l.length - 7)).drop 2 ++ (l[l.length - 7]'hl :: l.drop (l.length - 6))) := by
  have e1 : l.take (l.length - 7) = l.take 2 ++ (l.take (l.length - 7)).drop 2 := by
    conv => lhs; rw [← List.take_append_drop 2 (l.take (l.length - 7))]
    rw [List.take_take, Nat.min_eq_left (by omega)]
  have e2 : l.drop (l.length - 7) = l[l.length - 7]'hl :: l.drop (l.length - 6) := by
    rw [List.drop_eq_getElem_cons hl, show l.length - 7 + 1 = l.length - 6 from by omega]
  conv => lhs; rw [← List.take_append_drop (l.length - 7) l, e1, e2]
  rw [List.append_assoc]
theorem tail6_list (k : ByteArray) : Tail6 k ↔ ∀ c ∈ k.data.toList.drop (k.size - 6), 48 ≤ c.toNat ∧ c.toNat ≤ 57 := by
  have hs : k.data.toList.length = k.size := by simp
  constructor
  · intro h c hc
    obtain ⟨i, hi, rfl⟩ := List.getElem_of_mem hc
    rw [List.length_drop, hs] at hi
    have := h (k.size - 6 + i) (by omega) (by omega)
    rw [ba_get] at this
    rw [List.getElem_drop]
    exact this
  · intro h i hi h6
    have hm : k.data.toList[i]'(by rw [hs]; exact hi) ∈ k.data.toList.drop (k.size - 6) := by
      rw [List.mem_iff_getElem]
      refine ⟨i - (k.size - 6), by rw [List.length_drop, hs]; omega, ?_⟩
      rw [List.getElem_drop]
      congr 1; omega
    have := h _ hm
    rw [ba_get]
    exact this
theorem KeyOk_m (k : ByteArray) (h : ¬ (2 < k.size ∧ (head2 k = tB ++ slash ∨ head2 k = qB ++ slash))) :
    KeyOk k ↔ 10 ≤ k.size ∧ head2 k = mB ++ slash ∧ (∃ h7 : k.size - 7 < k.size, k[k.size - 7] = 47) ∧ NameOk (mid k) ∧ Tail6 k := by
  have hs : k.data.toList.length = k.size := by simp
  constructor
  · rintro (⟨a, ha, hk | hk⟩ | ⟨q, n, hq, hn, hk⟩)
    · exfalso
      apply h
      have h1 := ha.1
      refine ⟨by rw [hk, ByteArray.size_append, ByteArray.size_append]; show 2 < 1 + 1 + a.size; omega, .inl (ba_ext ?_)⟩
      rw [head2_list, hk, app_data, app_data]; rfl
    · exfalso
      apply h
      have h1 := ha.1
      refine ⟨by rw [hk, ByteArray.size_append, ByteArray.size_append]; show 2 < 1 + 1 + a.size; omega, .inr (ba_ext ?_)⟩
      rw [head2_list, hk, app_data, app_data]; rfl
    · have hl : k.data.toList = 109 :: 47 :: (q.data.toList ++ 47 :: esix (n % 1000000)) := by
        rw [hk, app_data, app_data, app_data, app_data]; simp only [List.append_assoc]; rfl
      have hqs : q.data.toList.length = q.size := by simp
      have hsz : k.size = q.size + 9 := by
        rw [← hs, hl]; simp only [List.length_cons, List.length_append, hqs]
        show q.size + (6 + 1) + 1 + 1 = _; omega
      have h1 := hq.1
      refine ⟨by omega, ba_ext (by rw [head2_list, hl]; rfl), ⟨by omega, ?_⟩, ?_, ?_⟩
      · rw [ba_get]
        have : k.data.toList[k.size - 7]? = some 47 := by
          rw [hl, show k.size - 7 = q.size + 2 from by omega, ← hqs]
          simp
        have h2 := List.getElem?_eq_some_iff.1 this
        exact h2.2
      · rw [show mid k = q from ba_ext (by
          rw [mid_list, hl, show k.size - 7 = q.data.toList.length + 1 + 1 from by omega]
          simp)]
        exact hq
      · rw [tail6_list, hl, show k.size - 6 = q.data.toList.length + 1 + 1 + 1 from by omega]
        have : List.drop (q.data.toList.length + 1 + 1 + 1) (109 :: 47 :: (q.data.toList ++ 47 :: esix (n % 1000000))) = esix (n % 1000000) := by
          simp only [List.drop_succ_cons]
          rw [show q.data.toList.length + 1 = (q.data.toList ++ [47]).length from by simp, show q.data.toList ++ 47 :: esix (n % 1000000) = (q.data.toList ++ [47]) ++ esix (n % 1000000) from by simp, List.drop_left]
        rw [this]
        exact esix_digits _
  · rintro ⟨h10, h1, ⟨h7, h2⟩, h3, h4⟩
    rw [tail6_list] at h4
    have h5 := list_four k.data.toList (by omega) (by omega)
    obtain ⟨m, hm, h6⟩ := six_of_digits _ (by rw [List.length_drop, hs]; omega) h4
    rw [ba_get] at h2
    refine .inr ⟨mid k, m, h3, hm, ba_ext ?_⟩
    have h9 : (mB ++ slash).data.toList = k.data.toList.take 2 := by rw [← h1, head2_list]
    rw [app_data, h9, app_data, app_data, mid_list, show (six m).data.toList = esix m from by show esix (m % 1000000) = _; rw [Nat.mod_eq_of_lt hm], ← h6]
    have h8 : k.data.toList[k.data.toList.length - 7]'(by omega) = 47 := by
      rw [← h2]; congr 1 <;> omega
    rw [h8, hs] at h5
    try (first | exact h5 | (rw [List.append_assoc]; exact h5))
set_option maxHeartbeats 4000000 in
set_option maxRecDepth 100000 in
theorem keyFault_any (k : ByteArray) (w : World) (hs : k.size ≤ 300) : Calls Tryd.prog 22 #[.string k] w fun e w' => e = .returned (.int .i64 (keyN k)) ∧ w' = w := by
  by_cases h1 : 2 < k.size ∧ (head2 k = tB ++ slash ∨ head2 k = qB ++ slash)
  · obtain ⟨h2, h3⟩ := h1
    have hK := KeyOk_tq k h3
    have hrs : (rest2 k).size ≤ 300 := by unfold rest2; rw [ByteArray.size_extract]; omega
    have HN1 := fun w => nameMay_any (rest2 k) w (by omega)
    have hh : ((k.extract 0 2).toList == [116, 47]) = true ∨ ((k.extract 0 2).toList == [113, 47]) = true := by
      rcases h3 with h | h
      · left; rw [show k.extract 0 2 = tB ++ slash from h]; decide +kernel
      · right; rw [show k.extract 0 2 = qB ++ slash from h]; decide +kernel
    rw [show rest2 k = k.extract 2 k.size from rfl] at HN1 hK
    generalize hx : k.extract 0 2 = x at *
    by_cases hN : NameOk (k.extract 2 k.size)
    · rw [keyN_yes (hK.2 hN)]
      rw [decide_eq_true hN] at HN1
      clear hK hN h3
      cases ht : (x.toList == [116, 47]) with
      | true =>
        go_enter Tryd.func22, Tryd.ntmps22
        go_wp2_with (go_at_call 14; (with_reducible apply Calls.mono (HN1 _); rintro e8 w8 ⟨rfl, rfl⟩; dsimp only))
        go_ret
        exact ⟨rfl, rfl⟩
      | false =>
        rw [ht] at hh
        have hq := hh.resolve_left (by simp)
        clear hh
        go_enter Tryd.func22, Tryd.ntmps22
        go_wp2_with (go_at_call 14; (with_reducible apply Calls.mono (HN1 _); rintro e8 w8 ⟨rfl, rfl⟩; dsimp only))
        go_ret
        exact ⟨rfl, rfl⟩
    · rw [keyN_no (fun h => hN (hK.1 h))]
      rw [decide_eq_false hN] at HN1
      clear hK hN h3
      cases ht : (x.toList == [116, 47]) with
      | true =>
        go_enter Tryd.func22, Tryd.ntmps22
        go_wp2_with (go_at_call 14; (with_reducible apply Calls.mono (HN1 _); rintro e8 w8 ⟨rfl, rfl⟩; dsimp only))
        go_ret
        exact ⟨rfl, rfl⟩
      | false =>
        rw [ht] at hh
        have hq := hh.resolve_left (by simp)
        clear hh
        go_enter Tryd.func22, Tryd.ntmps22
        go_wp2_with (go_at_call 14; (with_reducible apply Calls.mono (HN1 _); rintro e8 w8 ⟨rfl, rfl⟩; dsimp only))
        go_ret
        exact ⟨rfl, rfl⟩
  · have hK := KeyOk_m k h1
    have hno : ¬ 2 < k.size ∨ ((k.extract 0 2).toList == [116, 47]) = false ∧ ((k.extract 0 2).toList == [113, 47]) = false := by
      by_cases h2 : 2 < k.size
      · right
        constructor
        · rw [show ([116, 47] : List UInt8) = (tB ++ slash).toList from by decide +kernel]
          exact list_neq (fun e => h1 ⟨h2, .inl e⟩)
        · rw [show ([113, 47] : List UInt8) = (qB ++ slash).toList from by decide +kernel]
          exact list_neq (fun e => h1 ⟨h2, .inr e⟩)
      · exact .inl h2
    clear h1
    by_cases h10 : 10 ≤ k.size
    · obtain ⟨ht, hq⟩ := hno.resolve_left (by omega)
      clear hno
      have hms : (mid k).size ≤ 300 := by unfold mid; rw [ByteArray.size_extract]; omega
      have HN1 := fun w => nameMay_any (mid k) w (by omega)
      have hmm : head2 k = mB ++ slash ↔ ((k.extract 0 2).toList == [109, 47]) = true := by
        rw [show ([109, 47] : List UInt8) = (mB ++ slash).toList from by decide +kernel]
        constructor
        · intro h; rw [show k.extract 0 2 = mB ++ slash from h]; simp
        · intro h
          apply Classical.byContradiction
          intro hne
          rw [list_neq (show k.extract 0 2 ≠ mB ++ slash from hne)] at h
          cases h
      rw [hmm] at hK
      clear hmm
      rw [show mid k = k.extract 2 (k.size - 7) from rfl] at HN1 hK
      generalize hx : k.extract 0 2 = x at *
      cases hm : (x.toList == [109, 47]) with
      | false =>
        rw [keyN_no (fun h => by have := (hK.1 h).2.1; rw [hm] at this; cases this)]
        clear hK
        go_enter Tryd.func22, Tryd.ntmps22
        go_wp2_with (go_at_call 14; (with_reducible apply Calls.mono (HN1 _); rintro e8 w8 ⟨rfl, rfl⟩; dsimp only))
        go_ret
        exact ⟨rfl, rfl⟩
      | true =>
        by_cases h47 : k[k.size - 7]'(by omega) = 47
        · by_cases hN : NameOk (k.extract 2 (k.size - 7))
          · have hK2 : KeyOk k ↔ Tail6 k := hK.trans ⟨fun h => h.2.2.2.2, fun h => ⟨h10, hm, ⟨by omega, h47⟩, hN, h⟩⟩
            clear hK
            rw [decide_eq_true hN] at HN1
            have hc : (((k[k.size - 7]'(by omega)).toNat : Int) != 47) = false := by rw [h47]; rfl
            go_enter Tryd.func22, Tryd.ntmps22
            go_wp2_with (go_at_call 14; (with_reducible apply Calls.mono (HN1 _); rintro e8 w8 ⟨rfl, rfl⟩; dsimp only)) -- M2
            clear hN HN1
            go_loop [6] (fun v => ∃ i : Nat, k.size - 6 ≤ i ∧ i ≤ k.size ∧ v = .int .i64 i ∧ Hid (∀ j (h : j < k.size), k.size - 6 ≤ j → j < i → 48 ≤ k[j].toNat ∧ k[j].toNat ≤ 57)) (fun v => k.size - (intOf v).toNat)
            case atStart => exact ⟨k.size - 6, by omega, by omega, by congr 1; omega, Lib.hid (fun j _ h1 h2 => by omega)⟩
            case round =>
              obtain ⟨i, hi1, hi2, rfl, HI⟩ := hrel
              by_cases hlt : i < k.size
              · go_wp2
                all_goals first
                  | (go_ret; refine ⟨?_, rfl⟩; rw [keyN_no (fun h => by have := hK2.1 h i hlt hi1; omega)]; rfl)
                  | (refine ⟨⟨i + 1, by omega, by omega, by go_num, Lib.hid (fun j hj h1 h2 => ?_)⟩, by simp [intOf]; omega⟩; rcases Nat.lt_or_ge j i with h3 | h3
                     · exact HI.out j hj h1 h3
                     · obtain rfl : j = i := by omega
                       omega)
              · go_wp2
                go_ret
                refine ⟨?_, rfl⟩
                rw [keyN_yes (hK2.2 (fun j hj h1 => HI.out j hj h1 (by omega)))]; rfl
          · rw [keyN_no (fun h => hN (hK.1 h).2.2.2.1)]
            rw [decide_eq_false hN] at HN1
            have hc : (((k[k.size - 7]'(by omega)).toNat : Int) != 47) = false := by rw [h47]; rfl
            clear hK hN
            go_enter Tryd.func22, Tryd.ntmps22
            go_wp2_with (go_at_call 14; (with_reducible apply Calls.mono (HN1 _); rintro e8 w8 ⟨rfl, rfl⟩; dsimp only))
            go_ret
            exact ⟨rfl, rfl⟩
        · rw [keyN_no (fun h => by obtain ⟨_, h⟩ := (hK.1 h).2.2.1; exact h47 h)]
          have hc : (((k[k.size - 7]'(by omega)).toNat : Int) != 47) = true := by
            have h48 : ¬ (k[k.size - 7]'(by omega)).toNat = 47 := fun e => h47 (UInt8.toNat_inj.1 e)
            simp only [bne_iff_ne]; omega
          clear hK
          go_enter Tryd.func22, Tryd.ntmps22
          go_wp2_with (go_at_call 14; (with_reducible apply Calls.mono (HN1 _); rintro e8 w8 ⟨rfl, rfl⟩; dsimp only))
          all_goals (go_ret; exact ⟨rfl, rfl⟩)
    · rw [keyN_no (fun h => h10 (hK.1 h).1)]
      clear hK
      by_cases h2 : 2 < k.size
      · obtain ⟨ht, hq⟩ := hno.resolve_left (by omega)
        clear hno
        generalize hx : k.extract 0 2 = x at *
        go_enter Tryd.func22, Tryd.ntmps22
        go_wp2_with (go_at_call 14; (with_reducible apply Calls.mono (HN1 _); rintro e8 w8 ⟨rfl, rfl⟩; dsimp only))
        go_ret
        exact ⟨rfl, rfl⟩
      · clear hno
        go_enter Tryd.func22, Tryd.ntmps22
        go_wp2_with (go_at_call 14; (with_reducible apply Calls.mono (HN1 _); rintro e8 w8 ⟨rfl, rfl⟩; dsimp only))
        go_ret
        exact ⟨rfl, rfl⟩
end Go.Proofs.YtmjdgcgmlgbfjaaDoor
