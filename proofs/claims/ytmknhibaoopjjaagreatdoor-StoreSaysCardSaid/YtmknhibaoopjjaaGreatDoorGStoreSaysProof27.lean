/- Texts Row4, Row6, KeyC, Row7, Change, Change2, Change3 of this claim, laid together. -/
import Derived.Test.YtmknhibaoopjjaaGreatDoorGStoreSaysProof24
import Derived.WalkSpells
import Derived.WalkLawsBesides
import Derived.Test.YtmknhibaoopjjaaGreatDoorGStoreSaysProof3
import Derived.Test.YtmknhibaoopjjaaGreatDoorGStoreSaysProof8
set_option linter.unusedVariables false
set_option linter.unusedSimpArgs false
namespace Go.Proofs.YtmknhibaoopjjaaGreatDoor
open Go.RowKit
theorem LibOk.up {w w' : World} (h : LibOk w) (hb : ∀ b, b < w.heap.size → w'.heap[b]? = w.heap[b]?) : LibOk w' := by
  have up : ∀ {a v}, w.cell? a = some v → w'.cell? a = some v := fun {a v} hc => by
    have hl : a.block < w.heap.size := by
      unfold World.cell? at hc
      split at hc
      · rename_i he; exact (Array.getElem?_eq_some_iff.1 he).1
      · cases hc
    rw [World.cell?_of_block (w := w) (hb _ hl)]; exact hc
  exact ⟨h.max.imp fun _ h => up h, h.syn.imp fun _ h => h.imp fun _ h => up h, h.rng.imp fun _ h => h.imp fun _ h => up h, tab_up h.tab hb⟩
theorem lib_base {w : World} (h : LibOk w) : Own (fun _ => False) w w [.imm LibOk] := Own.base w _ fun w' hw' => h.up hw'
end Go.Proofs.YtmknhibaoopjjaaGreatDoor
namespace Go.Proofs.YtmknhibaoopjjaaGreatDoor
open Go.RowKit
theorem Tryz.intU8 : Tryz.prog.underlying 5 = some (.int .u8) := by kernel_rfl
end Go.Proofs.YtmknhibaoopjjaaGreatDoor
namespace Go.Proofs.YtmknhibaoopjjaaGreatDoor
open Go.RowKit
end Go.Proofs.YtmknhibaoopjjaaGreatDoor
namespace Go.Proofs.YtmknhibaoopjjaaGreatDoor
open Go.RowKit
theorem ext_list (k : ByteArray) (i j : Nat) : (k.extract i j).data.toList = (k.data.toList.take j).drop i := by
  rw [ByteArray.data_extract, Array.toList_extract, List.extract_eq_take_drop, List.drop_take]
theorem six_of_digits (l : List UInt8) (hl : l.length = 6) (hd : ∀ c ∈ l, 48 ≤ c.toNat ∧ c.toNat ≤ 57) : ∃ m, m < 1000000 ∧ l = esix m := by
  match l, hl with
  | [a, b, c, d, e, f], _ =>
    have ha := hd a (by simp)
    have hb := hd b (by simp)
    have hc := hd c (by simp)
    have hd' := hd d (by simp)
    have he := hd e (by simp)
    have hf := hd f (by simp)
    have back : ∀ x : UInt8, 48 ≤ x.toNat → x.toNat ≤ 57 → x = d8 (x.toNat - 48) := fun x h1 h2 => UInt8.toNat_inj.1 (by rw [d8_toNat _ (by omega)]; omega)
    have mk : ∀ x : UInt8, 48 ≤ x.toNat ∧ x.toNat ≤ 57 → ∃ y, y < 10 ∧ x = d8 y := fun x h => ⟨x.toNat - 48, by omega, back x h.1 h.2⟩
    obtain ⟨x1, h1, rfl⟩ := mk a ha
    obtain ⟨x2, h2, rfl⟩ := mk b hb
    obtain ⟨x3, h3, rfl⟩ := mk c hc
    obtain ⟨x4, h4, rfl⟩ := mk d hd'
    obtain ⟨x5, h5, rfl⟩ := mk e he
    obtain ⟨x6, h6, rfl⟩ := mk f hf
    refine ⟨((((x1 * 10 + x2) * 10 + x3) * 10 + x4) * 10 + x5) * 10 + x6, by omega, ?_⟩
    unfold esix
    rw [show (((((x1 * 10 + x2) * 10 + x3) * 10 + x4) * 10 + x5) * 10 + x6) / 100000 % 10 = x1 from by omega, show (((((x1 * 10 + x2) * 10 + x3) * 10 + x4) * 10 + x5) * 10 + x6) / 10000 % 10 = x2 from by omega,
      show (((((x1 * 10 + x2) * 10 + x3) * 10 + x4) * 10 + x5) * 10 + x6) / 1000 % 10 = x3 from by omega, show (((((x1 * 10 + x2) * 10 + x3) * 10 + x4) * 10 + x5) * 10 + x6) / 100 % 10 = x4 from by omega,
      show (((((x1 * 10 + x2) * 10 + x3) * 10 + x4) * 10 + x5) * 10 + x6) / 10 % 10 = x5 from by omega, show (((((x1 * 10 + x2) * 10 + x3) * 10 + x4) * 10 + x5) * 10 + x6) % 10 = x6 from by omega]
theorem esix_digits (m : Nat) : ∀ c ∈ esix m, 48 ≤ c.toNat ∧ c.toNat ≤ 57 := by
  unfold esix
  intro c hc
  simp only [List.mem_cons, List.not_mem_nil, or_false] at hc
  rcases hc with rfl | rfl | rfl | rfl | rfl | rfl <;> (rw [d8_toNat _ (by omega)]; omega)
def head2 (k : ByteArray) : ByteArray := k.extract 0 2
def rest2 (k : ByteArray) : ByteArray := k.extract 2 k.size
def mid (k : ByteArray) : ByteArray := k.extract 2 (k.size - 7)
/-- Is each of the last six a digit? -/
def Tail6 (k : ByteArray) : Prop := ∀ i (h : i < k.size), k.size - 6 ≤ i → 48 ≤ k[i].toNat ∧ k[i].toNat ≤ 57
theorem ba_get (k : ByteArray) (i : Nat) (h : i < k.size) : k[i] = k.data.toList[i]'(by simpa using h) := rfl
theorem head2_list (k : ByteArray) : (head2 k).data.toList = k.data.toList.take 2 := by unfold head2; rw [ext_list, List.drop_zero]
theorem rest2_list (k : ByteArray) : (rest2 k).data.toList = k.data.toList.drop 2 := by
  unfold rest2
  rw [ext_list, show k.size = k.data.toList.length from by simp, List.take_length]
theorem key_tq (k : ByteArray) (x : ByteArray) (hx : x.size = 1) (h : head2 k = x ++ slash) : k = x ++ slash ++ rest2 k := ba_ext (by
  rw [app_data, ← h, head2_list, rest2_list, List.take_append_drop])
theorem KeyOk_tq (k : ByteArray) (h : head2 k = tB ++ slash ∨ head2 k = qB ++ slash) : KeyOk k ↔ NameOk (rest2 k) := by
  rcases h with h | h
  · have e := key_tq k tB rfl h
    constructor
    · intro hk
      have := (KeyOk_cut k).1 hk
      have hc : cutB k slash = (tB, rest2 k, true) := by
        generalize rest2 k = r at e
        rw [e]; exact cutB_hit tB _ (by decide)
      rw [hc] at this
      rcases this.2 with h2 | h2
      · exact h2.2
      · exact absurd (show tB = mB from h2.1) (by decide)
    · intro hn
      exact .inl ⟨_, hn, .inl e⟩
  · have e := key_tq k qB rfl h
    constructor
    · intro hk
      have := (KeyOk_cut k).1 hk
      have hc : cutB k slash = (qB, rest2 k, true) := by
        generalize rest2 k = r at e
        rw [e]; exact cutB_hit qB _ (by decide)
      rw [hc] at this
      rcases this.2 with h2 | h2
      · exact h2.2
      · exact absurd (show qB = mB from h2.1) (by decide)
    · intro hn
      exact .inl ⟨_, hn, .inr e⟩
theorem mid_list (k : ByteArray) : (mid k).data.toList = (k.data.toList.take (k.size - 7)).drop 2 := by unfold mid; rw [ext_list]
theorem list_four (l : List UInt8) (h : 10 ≤ l.length) (hl : l.length - 7 < l.length) : l = l.take 2 ++ ((l.take (l.length - 7)).drop 2 ++ (l[l.length - 7]'hl :: l.drop (l.length - 6))) := by
  have e1 : l.take (l.length - 7) = l.take 2 ++ (l.take (l.length - 7)).drop 2 := by
    conv => lhs; rw [← List.take_append_drop 2 (l.take (l.length - 7))]
    rw [List.take_take, Nat.min_eq_left (by omega)]
  have e2 : l.drop (l.length - 7) = l[l.length - 7]'hl :: l.drop (l.length - 6) := by
    rw [List.drop_eq_getElem_cons hl, show l.length - 7 + 1 = l.length - 6 from by omega]
  conv => lhs; rw [← List.take_append_drop (l.length - 7) l, e1, e2]
  rw [List.append_assoc]
theorem tail6_list (k : ByteArray) : Tail6 k ↔ ∀ c ∈ k.data.toList.drop (k.size - 6), 48 ≤ c.toNat ∧ c.toNat ≤ 57 := by
  have hs : k.data.toList.length = k.size := by simp
  constructor
  · intro h c hc
    obtain ⟨i, hi, rfl⟩ := List.getElem_of_mem hc
    rw [List.length_drop, hs] at hi
    have := h (k.size - 6 + i) (by omega) (by omega)
    rw [ba_get] at this
    rw [List.getElem_drop]
    exact this
  · intro h i hi h6
    have hm : k.data.toList[i]'(by rw [hs]; exact hi) ∈ k.data.toList.drop (k.size - 6) := by
      rw [List.mem_iff_getElem]
      refine ⟨i - (k.size - 6), by rw [List.length_drop, hs]; omega, ?_⟩
      rw [List.getElem_drop]
      congr 1; omega
    have := h _ hm
    rw [ba_get]
    exact this
theorem KeyOk_m (k : ByteArray) (h : ¬ (2 < k.size ∧ (head2 k = tB ++ slash ∨ head2 k = qB ++ slash))) :
    KeyOk k ↔ 10 ≤ k.size ∧ head2 k = mB ++ slash ∧ (∃ h7 : k.size - 7 < k.size, k[k.size - 7] = 47) ∧ NameOk (mid k) ∧ Tail6 k := by
  have hs : k.data.toList.length = k.size := by simp
  constructor
  · rintro (⟨a, ha, hk | hk⟩ | ⟨q, n, hq, hn, hk⟩)
    · exfalso
      apply h
      have h1 := ha.1
      refine ⟨by rw [hk, ByteArray.size_append, ByteArray.size_append]; show 2 < 1 + 1 + a.size; omega, .inl (ba_ext ?_)⟩
      rw [head2_list, hk, app_data, app_data]; rfl
    · exfalso
      apply h
      have h1 := ha.1
      refine ⟨by rw [hk, ByteArray.size_append, ByteArray.size_append]; show 2 < 1 + 1 + a.size; omega, .inr (ba_ext ?_)⟩
      rw [head2_list, hk, app_data, app_data]; rfl
    · have hl : k.data.toList = 109 :: 47 :: (q.data.toList ++ 47 :: esix (n % 1000000)) := by
        rw [hk, app_data, app_data, app_data, app_data]; simp only [List.append_assoc]; rfl
      have hqs : q.data.toList.length = q.size := by simp
      have hsz : k.size = q.size + 9 := by
        rw [← hs, hl]; simp only [List.length_cons, List.length_append, hqs]
        show q.size + (6 + 1) + 1 + 1 = _; omega
      have h1 := hq.1
      refine ⟨by omega, ba_ext (by rw [head2_list, hl]; rfl), ⟨by omega, ?_⟩, ?_, ?_⟩
      · rw [ba_get]
        have : k.data.toList[k.size - 7]? = some 47 := by
          rw [hl, show k.size - 7 = q.size + 2 from by omega, ← hqs]
          simp
        have h2 := List.getElem?_eq_some_iff.1 this
        exact h2.2
      · rw [show mid k = q from ba_ext (by
          rw [mid_list, hl, show k.size - 7 = q.data.toList.length + 1 + 1 from by omega]
          simp)]
        exact hq
      · rw [tail6_list, hl, show k.size - 6 = q.data.toList.length + 1 + 1 + 1 from by omega]
        have : List.drop (q.data.toList.length + 1 + 1 + 1) (109 :: 47 :: (q.data.toList ++ 47 :: esix (n % 1000000))) = esix (n % 1000000) := by
          simp only [List.drop_succ_cons]
          rw [show q.data.toList.length + 1 = (q.data.toList ++ [47]).length from by simp, show q.data.toList ++ 47 :: esix (n % 1000000) = (q.data.toList ++ [47]) ++ esix (n % 1000000) from by simp, List.drop_left]
        rw [this]
        exact esix_digits _
  · rintro ⟨h10, h1, ⟨h7, h2⟩, h3, h4⟩
    rw [tail6_list] at h4
    have h5 := list_four k.data.toList (by omega) (by omega)
    obtain ⟨m, hm, h6⟩ := six_of_digits _ (by rw [List.length_drop, hs]; omega) h4
    rw [ba_get] at h2
    refine .inr ⟨mid k, m, h3, hm, ba_ext ?_⟩
    have h9 : (mB ++ slash).data.toList = k.data.toList.take 2 := by rw [← h1, head2_list]
    rw [app_data, h9, app_data, app_data, mid_list, show (six m).data.toList = esix m from by show esix (m % 1000000) = _; rw [Nat.mod_eq_of_lt hm], ← h6]
    have h8 : k.data.toList[k.data.toList.length - 7]'(by omega) = 47 := by
      rw [← h2]; congr 1 <;> omega
    rw [h8, hs] at h5
    try (first | exact h5 | (rw [List.append_assoc]; exact h5))
set_option maxHeartbeats 4000000 in
set_option maxRecDepth 100000 in
theorem keyFault_any (k : ByteArray) (w : World) (hs : k.size ≤ 300) : Calls Tryz.prog 62 #[.string k] w fun e w' => e = .returned (.int .i64 (keyN k)) ∧ w' = w := by
  by_cases h1 : 2 < k.size ∧ (head2 k = tB ++ slash ∨ head2 k = qB ++ slash)
  · obtain ⟨h2, h3⟩ := h1
    have hK := KeyOk_tq k h3
    have hrs : (rest2 k).size ≤ 300 := by unfold rest2; rw [ByteArray.size_extract]; omega
    have HN1 := fun w => nameMay_any (rest2 k) w (by omega)
    have hh : ((k.extract 0 2).toList == [116, 47]) = true ∨ ((k.extract 0 2).toList == [113, 47]) = true := by
      rcases h3 with h | h
      · left; rw [show k.extract 0 2 = tB ++ slash from h]; decide +kernel
      · right; rw [show k.extract 0 2 = qB ++ slash from h]; decide +kernel
    rw [show rest2 k = k.extract 2 k.size from rfl] at HN1 hK
    generalize hx : k.extract 0 2 = x at *
    by_cases hN : NameOk (k.extract 2 k.size)
    · rw [keyN_yes (hK.2 hN)]
      rw [decide_eq_true hN] at HN1
      clear hK hN h3
      cases ht : (x.toList == [116, 47]) with
      | true =>
        go_enter Tryz.func62, Tryz.ntmps62
        go_wp2_with (go_at_call 135; (with_reducible apply Calls.mono (HN1 _); rintro e8 w8 ⟨rfl, rfl⟩; dsimp only))
        go_ret
        exact ⟨rfl, rfl⟩
      | false =>
        rw [ht] at hh
        have hq := hh.resolve_left (by simp)
        clear hh
        go_enter Tryz.func62, Tryz.ntmps62
        go_wp2_with (go_at_call 135; (with_reducible apply Calls.mono (HN1 _); rintro e8 w8 ⟨rfl, rfl⟩; dsimp only))
        go_ret
        exact ⟨rfl, rfl⟩
    · rw [keyN_no (fun h => hN (hK.1 h))]
      rw [decide_eq_false hN] at HN1
      clear hK hN h3
      cases ht : (x.toList == [116, 47]) with
      | true =>
        go_enter Tryz.func62, Tryz.ntmps62
        go_wp2_with (go_at_call 135; (with_reducible apply Calls.mono (HN1 _); rintro e8 w8 ⟨rfl, rfl⟩; dsimp only))
        go_ret
        exact ⟨rfl, rfl⟩
      | false =>
        rw [ht] at hh
        have hq := hh.resolve_left (by simp)
        clear hh
        go_enter Tryz.func62, Tryz.ntmps62
        go_wp2_with (go_at_call 135; (with_reducible apply Calls.mono (HN1 _); rintro e8 w8 ⟨rfl, rfl⟩; dsimp only))
        go_ret
        exact ⟨rfl, rfl⟩
  · have hK := KeyOk_m k h1
    have hno : ¬ 2 < k.size ∨ ((k.extract 0 2).toList == [116, 47]) = false ∧ ((k.extract 0 2).toList == [113, 47]) = false := by
      by_cases h2 : 2 < k.size
      · right
        constructor
        · rw [show ([116, 47] : List UInt8) = (tB ++ slash).toList from by decide +kernel]
          exact list_neq (fun e => h1 ⟨h2, .inl e⟩)
        · rw [show ([113, 47] : List UInt8) = (qB ++ slash).toList from by decide +kernel]
          exact list_neq (fun e => h1 ⟨h2, .inr e⟩)
      · exact .inl h2
    clear h1
    by_cases h10 : 10 ≤ k.size
    · obtain ⟨ht, hq⟩ := hno.resolve_left (by omega)
      clear hno
      have hms : (mid k).size ≤ 300 := by unfold mid; rw [ByteArray.size_extract]; omega
      have HN1 := fun w => nameMay_any (mid k) w (by omega)
      have hmm : head2 k = mB ++ slash ↔ ((k.extract 0 2).toList == [109, 47]) = true := by
        rw [show ([109, 47] : List UInt8) = (mB ++ slash).toList from by decide +kernel]
        constructor
        · intro h; rw [show k.extract 0 2 = mB ++ slash from h]; simp
        · intro h
          apply Classical.byContradiction
          intro hne
          rw [list_neq (show k.extract 0 2 ≠ mB ++ slash from hne)] at h
          cases h
      rw [hmm] at hK
      clear hmm
      rw [show mid k = k.extract 2 (k.size - 7) from rfl] at HN1 hK
      generalize hx : k.extract 0 2 = x at *
      cases hm : (x.toList == [109, 47]) with
      | false =>
        rw [keyN_no (fun h => by have := (hK.1 h).2.1; rw [hm] at this; cases this)]
        clear hK
        go_enter Tryz.func62, Tryz.ntmps62
        go_wp2_with (go_at_call 135; (with_reducible apply Calls.mono (HN1 _); rintro e8 w8 ⟨rfl, rfl⟩; dsimp only))
        go_ret
        exact ⟨rfl, rfl⟩
      | true =>
        by_cases h47 : k[k.size - 7]'(by omega) = 47
        · by_cases hN : NameOk (k.extract 2 (k.size - 7))
          · have hK2 : KeyOk k ↔ Tail6 k := hK.trans ⟨fun h => h.2.2.2.2, fun h => ⟨h10, hm, ⟨by omega, h47⟩, hN, h⟩⟩
            clear hK
            rw [decide_eq_true hN] at HN1
            have hc : (((k[k.size - 7]'(by omega)).toNat : Int) != 47) = false := by rw [h47]; rfl
            go_enter Tryz.func62, Tryz.ntmps62
            go_wp2_with (go_at_call 135; (with_reducible apply Calls.mono (HN1 _); rintro e8 w8 ⟨rfl, rfl⟩; dsimp only)) -- M2
            clear hN HN1
            go_loop [6] (fun v => ∃ i : Nat, k.size - 6 ≤ i ∧ i ≤ k.size ∧ v = .int .i64 i ∧ Hid (∀ j (h : j < k.size), k.size - 6 ≤ j → j < i → 48 ≤ k[j].toNat ∧ k[j].toNat ≤ 57)) (fun v => k.size - (intOf v).toNat)
            case atStart => exact ⟨k.size - 6, by omega, by omega, by congr 1; omega, Lib.hid (fun j _ h1 h2 => by omega)⟩
            case round =>
              obtain ⟨i, hi1, hi2, rfl, HI⟩ := hrel
              by_cases hlt : i < k.size
              · go_wp2
                all_goals first
                  | (go_ret; refine ⟨?_, rfl⟩; rw [keyN_no (fun h => by have := hK2.1 h i hlt hi1; omega)]; rfl)
                  | (refine ⟨⟨i + 1, by omega, by omega, by go_num, Lib.hid (fun j hj h1 h2 => ?_)⟩, by simp [intOf]; omega⟩; rcases Nat.lt_or_ge j i with h3 | h3
                     · exact HI.out j hj h1 h3
                     · obtain rfl : j = i := by omega
                       omega)
              · go_wp2
                go_ret
                refine ⟨?_, rfl⟩
                rw [keyN_yes (hK2.2 (fun j hj h1 => HI.out j hj h1 (by omega)))]; rfl
          · rw [keyN_no (fun h => hN (hK.1 h).2.2.2.1)]
            rw [decide_eq_false hN] at HN1
            have hc : (((k[k.size - 7]'(by omega)).toNat : Int) != 47) = false := by rw [h47]; rfl
            clear hK hN
            go_enter Tryz.func62, Tryz.ntmps62
            go_wp2_with (go_at_call 135; (with_reducible apply Calls.mono (HN1 _); rintro e8 w8 ⟨rfl, rfl⟩; dsimp only))
            go_ret
            exact ⟨rfl, rfl⟩
        · rw [keyN_no (fun h => by obtain ⟨_, h⟩ := (hK.1 h).2.2.1; exact h47 h)]
          have hc : (((k[k.size - 7]'(by omega)).toNat : Int) != 47) = true := by
            have h48 : ¬ (k[k.size - 7]'(by omega)).toNat = 47 := fun e => h47 (UInt8.toNat_inj.1 e)
            simp only [bne_iff_ne]; omega
          clear hK
          go_enter Tryz.func62, Tryz.ntmps62
          go_wp2_with (go_at_call 135; (with_reducible apply Calls.mono (HN1 _); rintro e8 w8 ⟨rfl, rfl⟩; dsimp only))
          all_goals (go_ret; exact ⟨rfl, rfl⟩)
    · rw [keyN_no (fun h => h10 (hK.1 h).1)]
      clear hK
      by_cases h2 : 2 < k.size
      · obtain ⟨ht, hq⟩ := hno.resolve_left (by omega)
        clear hno
        generalize hx : k.extract 0 2 = x at *
        go_enter Tryz.func62, Tryz.ntmps62
        go_wp2_with (go_at_call 135; (with_reducible apply Calls.mono (HN1 _); rintro e8 w8 ⟨rfl, rfl⟩; dsimp only))
        go_ret
        exact ⟨rfl, rfl⟩
      · clear hno
        go_enter Tryz.func62, Tryz.ntmps62
        go_wp2_with (go_at_call 135; (with_reducible apply Calls.mono (HN1 _); rintro e8 w8 ⟨rfl, rfl⟩; dsimp only))
        go_ret
        exact ⟨rfl, rfl⟩
end Go.Proofs.YtmknhibaoopjjaaGreatDoor
namespace Go.Proofs.YtmknhibaoopjjaaGreatDoor
open Go.RowKit
/-- May it be a change? -/
def ChOk (c : Ch) : Prop := KeyOk c.key ∧ (c.gone = true → c.val.size = 0) ∧ c.val.size ≤ 40
open Classical in
noncomputable def chN (c : Ch) : Nat := if KeyOk c.key then (if c.gone = true ∧ c.val.size ≠ 0 then 3 else if 40 < c.val.size then 1 else 0) else 3
theorem chN_no {c : Ch} (h : ¬ KeyOk c.key) : chN c = 3 := if_neg h
theorem chN_gone {c : Ch} (h : KeyOk c.key) (h2 : c.gone = true) (h3 : c.val.size ≠ 0) : chN c = 3 := by unfold chN; rw [if_pos h, if_pos ⟨h2, h3⟩]
theorem chN_big {c : Ch} (h : KeyOk c.key) (h2 : c.gone = true → c.val.size = 0) (h3 : 40 < c.val.size) : chN c = 1 := by
  unfold chN; rw [if_pos h, if_neg (fun e => e.2 (h2 e.1)), if_pos h3]
theorem chN_ok {c : Ch} (h : ChOk c) : chN c = 0 := by
  unfold chN; rw [if_pos h.1, if_neg (fun e => e.2 (h.2.1 e.1)), if_neg (by have := h.2.2; omega)]
theorem chN_le (c : Ch) : chN c ≤ 3 := by
  unfold chN; split
  · split
    · omega
    · split <;> omega
  · omega
theorem chN_zero {c : Ch} : chN c = 0 ↔ ChOk c := by
  refine ⟨fun h => ?_, chN_ok⟩
  unfold chN at h
  split at h
  · rename_i h1
    split at h
    · cases h
    · rename_i h2
      split at h
      · cases h
      · rename_i h3
        refine ⟨h1, fun hg => ?_, by omega⟩
        by_cases hv : c.val.size = 0
        · exact hv
        · exact absurd ⟨hg, hv⟩ h2
  · cases h
theorem key_size {k : ByteArray} (h : KeyOk k) : k.size ≤ 15 := by
  rcases h with ⟨a, ha, rfl | rfl⟩ | ⟨q, n, hq, hn, rfl⟩
  · rw [ByteArray.size_append, ByteArray.size_append]; have := ha.2.1; show 1 + 1 + a.size ≤ 15; omega
  · rw [ByteArray.size_append, ByteArray.size_append]; have := ha.2.1; show 1 + 1 + a.size ≤ 15; omega
  · rw [ByteArray.size_append, ByteArray.size_append, ByteArray.size_append, ByteArray.size_append, six_size]; have := hq.2.1; show 1 + 1 + (q.size + 1 + 6) ≤ 15; omega
theorem size_list (d : ByteArray) : d.toList.length = d.size := by rw [ByteArray.toList_eq]; rfl
theorem list_nil {d : ByteArray} : d.toList = [] ↔ d.size = 0 := by rw [← List.length_eq_zero_iff, size_list]
set_option maxHeartbeats 2000000 in
set_option maxRecDepth 100000 in
theorem chCheck_any (c : Ch) (w : World) (h : LibOk w) (hs : c.key.size ≤ 300) (hv : c.val.size ≤ 1000) : Calls Tryz.prog 100 #[c.v] w fun e w' => e = .returned (errV (chN c)) ∧ Ext w w' := by
  have hO := lib_base h
  have hC := fun w h => check_any c.key w h (by omega)
  unfold Ch.v
  by_cases hk : KeyOk c.key
  · rw [keyN_yes hk, show errV 0 = .nilIface from rfl] at hC
    by_cases hg : c.gone = true ∧ c.val.size ≠ 0
    · rw [chN_gone hk hg.1 hg.2]
      have e : errV 3 = .iface 127 (.int .i64 3) := rfl
      rw [e]
      clear e
      have hvl : ¬ c.val.toList = [] := fun e => hg.2 (list_nil.1 e)
      obtain ⟨k, v, g⟩ := c
      obtain ⟨rfl, hg2⟩ := hg
      dsimp only at *
      go_enter Tryz.func100, Tryz.ntmps100
      go_wp2_with (first | (go_at_call 80; (with_reducible apply Calls.mono (hC _ (Own.immOf (φ := LibOk) hO pk_)); rintro e8 w8 ⟨rfl, hx8⟩; replace hO := hO.ext hx8; clear hx8; dsimp only; ((try clear hf); have hf := fa_ hO))) | ((refine sy_ hO ?_); clear hO; intro w9 hO; (try dsimp only [List.set] at hO); ((try clear hf); have hf := fa_ hO)))
      all_goals first | (exfalso; omega) | (go_ret; exact ⟨rfl, hO.toExt⟩) | (exfalso; simp_all; done)
    · have hg' : c.gone = true → c.val.size = 0 := fun e => by
        by_cases hv : c.val.size = 0
        · exact hv
        · exact absurd ⟨e, hv⟩ hg
      by_cases hb : 40 < c.val.size
      · rw [chN_big hk hg' hb]
        have e : errV 1 = .iface 127 (.int .i64 1) := rfl
        rw [e]
        clear e
        obtain ⟨k, v, g⟩ := c
        cases g with
        | true => exact absurd (hg' rfl) (by dsimp only at *; omega)
        | false =>
          clear hg hg'
          dsimp only at *
          go_enter Tryz.func100, Tryz.ntmps100
          go_wp2_with (first | (go_at_call 80; (with_reducible apply Calls.mono (hC _ (Own.immOf (φ := LibOk) hO pk_)); rintro e8 w8 ⟨rfl, hx8⟩; replace hO := hO.ext hx8; clear hx8; dsimp only; ((try clear hf); have hf := fa_ hO))) | ((refine sy_ hO ?_); clear hO; intro w9 hO; (try dsimp only [List.set] at hO); ((try clear hf); have hf := fa_ hO)))
          all_goals first | (exfalso; omega) | (go_ret; exact ⟨rfl, hO.toExt⟩) | (exfalso; simp_all; done)
      · rw [chN_ok ⟨hk, hg', by omega⟩, show errV 0 = .nilIface from rfl]
        obtain ⟨k, v, g⟩ := c
        cases g with
        | true =>
          have hvl : v.toList = [] := list_nil.2 (hg' rfl)
          clear hg hg'
          dsimp only at *
          go_enter Tryz.func100, Tryz.ntmps100
          go_wp2_with (first | (go_at_call 80; (with_reducible apply Calls.mono (hC _ (Own.immOf (φ := LibOk) hO pk_)); rintro e8 w8 ⟨rfl, hx8⟩; replace hO := hO.ext hx8; clear hx8; dsimp only; ((try clear hf); have hf := fa_ hO))) | ((refine sy_ hO ?_); clear hO; intro w9 hO; (try dsimp only [List.set] at hO); ((try clear hf); have hf := fa_ hO)))
          all_goals first | (exfalso; omega) | (go_ret; exact ⟨rfl, hO.toExt⟩) | (exfalso; simp_all; done)
        | false =>
          clear hg hg'
          dsimp only at *
          go_enter Tryz.func100, Tryz.ntmps100
          go_wp2_with (first | (go_at_call 80; (with_reducible apply Calls.mono (hC _ (Own.immOf (φ := LibOk) hO pk_)); rintro e8 w8 ⟨rfl, hx8⟩; replace hO := hO.ext hx8; clear hx8; dsimp only; ((try clear hf); have hf := fa_ hO))) | ((refine sy_ hO ?_); clear hO; intro w9 hO; (try dsimp only [List.set] at hO); ((try clear hf); have hf := fa_ hO)))
          all_goals first | (exfalso; omega) | (go_ret; exact ⟨rfl, hO.toExt⟩) | (exfalso; simp_all; done)
  · rw [chN_no hk]
    rw [keyN_no hk] at hC
    have e : errV 3 = .iface 127 (.int .i64 3) := rfl
    rw [e] at hC ⊢
    clear e
    go_enter Tryz.func100, Tryz.ntmps100
    go_wp2_with (first | (go_at_call 80; (with_reducible apply Calls.mono (hC _ (Own.immOf (φ := LibOk) hO pk_)); rintro e8 w8 ⟨rfl, hx8⟩; replace hO := hO.ext hx8; clear hx8; dsimp only; ((try clear hf); have hf := fa_ hO))) | ((refine sy_ hO ?_); clear hO; intro w9 hO; (try dsimp only [List.set] at hO); ((try clear hf); have hf := fa_ hO)))
    all_goals first | (exfalso; omega) | (go_ret; exact ⟨rfl, hO.toExt⟩) | (exfalso; simp_all; done)
end Go.Proofs.YtmknhibaoopjjaaGreatDoor
namespace Go.Proofs.YtmknhibaoopjjaaGreatDoor
open Go.RowKit
set_option maxHeartbeats 2000000 in
set_option maxRecDepth 100000 in
theorem chFault_any (c : Ch) (w : World) (hs : c.key.size ≤ 300) (hv : c.val.size ≤ 1000) : Calls Tryz.prog 66 #[c.v] w fun e w' => e = .returned (.int .i64 (chN c)) ∧ Ext w w' := by
  have hO := Own.start w (fun _ => False)
  have hC := fun w => keyFault_any c.key w hs
  unfold Ch.v
  by_cases hk : KeyOk c.key
  · rw [keyN_yes hk] at hC
    by_cases hg : c.gone = true ∧ c.val.size ≠ 0
    · rw [chN_gone hk hg.1 hg.2]
      have hvl : ¬ c.val.toList = [] := fun e => hg.2 (list_nil.1 e)
      obtain ⟨k, v, g⟩ := c
      obtain ⟨rfl, hg2⟩ := hg
      dsimp only at *
      go_enter Tryz.func66, Tryz.ntmps66
      go_wp2_with (first | (go_at_call 62; (with_reducible apply Calls.mono (hC _); rintro e8 w8 ⟨rfl, rfl⟩; dsimp only)) | ((refine sy_ hO ?_); clear hO; intro w9 hO; (try dsimp only [List.set] at hO); ((try clear hf); have hf := fa_ hO)))
      all_goals first | (exfalso; omega) | (go_ret; exact ⟨rfl, hO.toExt⟩) | (exfalso; simp_all; done)
    · have hg' : c.gone = true → c.val.size = 0 := fun e => by
        by_cases hv : c.val.size = 0
        · exact hv
        · exact absurd ⟨e, hv⟩ hg
      by_cases hb : 40 < c.val.size
      · rw [chN_big hk hg' hb]
        obtain ⟨k, v, g⟩ := c
        cases g with
        | true => exact absurd (hg' rfl) (by dsimp only at *; omega)
        | false =>
          clear hg hg'
          dsimp only at *
          go_enter Tryz.func66, Tryz.ntmps66
          go_wp2_with (first | (go_at_call 62; (with_reducible apply Calls.mono (hC _); rintro e8 w8 ⟨rfl, rfl⟩; dsimp only)) | ((refine sy_ hO ?_); clear hO; intro w9 hO; (try dsimp only [List.set] at hO); ((try clear hf); have hf := fa_ hO)))
          all_goals first | (exfalso; omega) | (go_ret; exact ⟨rfl, hO.toExt⟩) | (exfalso; simp_all; done)
      · rw [chN_ok ⟨hk, hg', by omega⟩]
        obtain ⟨k, v, g⟩ := c
        cases g with
        | true =>
          have hvl : v.toList = [] := list_nil.2 (hg' rfl)
          clear hg hg'
          dsimp only at *
          go_enter Tryz.func66, Tryz.ntmps66
          go_wp2_with (first | (go_at_call 62; (with_reducible apply Calls.mono (hC _); rintro e8 w8 ⟨rfl, rfl⟩; dsimp only)) | ((refine sy_ hO ?_); clear hO; intro w9 hO; (try dsimp only [List.set] at hO); ((try clear hf); have hf := fa_ hO)))
          all_goals first | (exfalso; omega) | (go_ret; exact ⟨rfl, hO.toExt⟩) | (exfalso; simp_all; done)
        | false =>
          clear hg hg'
          dsimp only at *
          go_enter Tryz.func66, Tryz.ntmps66
          go_wp2_with (first | (go_at_call 62; (with_reducible apply Calls.mono (hC _); rintro e8 w8 ⟨rfl, rfl⟩; dsimp only)) | ((refine sy_ hO ?_); clear hO; intro w9 hO; (try dsimp only [List.set] at hO); ((try clear hf); have hf := fa_ hO)))
          all_goals first | (exfalso; omega) | (go_ret; exact ⟨rfl, hO.toExt⟩) | (exfalso; simp_all; done)
  · rw [chN_no hk]
    rw [keyN_no hk] at hC
    go_enter Tryz.func66, Tryz.ntmps66
    go_wp2_with (first | (go_at_call 62; (with_reducible apply Calls.mono (hC _); rintro e8 w8 ⟨rfl, rfl⟩; dsimp only)) | ((refine sy_ hO ?_); clear hO; intro w9 hO; (try dsimp only [List.set] at hO); ((try clear hf); have hf := fa_ hO)))
    all_goals first | (exfalso; omega) | (go_ret; exact ⟨rfl, hO.toExt⟩) | (exfalso; simp_all; done)
/-- A change's bytes. -/
def bytesC (c : Ch) : ByteArray := ⟨#[if c.gone then 1 else 0, UInt8.ofNat c.key.size]⟩ ++ c.key ++ c.val
theorem push_two (a b : Int) : ([a, b] : List Int).foldl (fun r n => r.push (UInt8.ofNat n.toNat)) ByteArray.empty = ⟨#[UInt8.ofNat a.toNat, UInt8.ofNat b.toNat]⟩ := rfl
set_option maxHeartbeats 2000000 in
set_option maxRecDepth 100000 in
theorem bytes_ok (c : Ch) (w : World) (h : LibOk w) (hs : c.key.size ≤ 200) (hv : c.val.size ≤ 1000) (hc : ChOk c) : Calls Tryz.prog 196 #[c.v] w fun e w' => e = .returned (.tuple #[.string (bytesC c), errV 0]) ∧ Ext w w' := by
  have hks := key_size hc.1
  have hO := lib_base h; have hC := fun w h => chCheck_any c w h (by omega) hv
  rw [chN_ok hc] at hC
  try rw [show errV 0 = .nilIface from rfl] at hC
  obtain ⟨x, hx⟩ : ∃ x, x = (⟨#[if c.gone then 1 else 0, UInt8.ofNat c.key.size]⟩ : ByteArray) := ⟨_, rfl⟩
  have hxs : x.size = 2 := by rw [hx]; rfl
  have hfin : bytesC c = x ++ c.key ++ c.val := by rw [hx]; rfl
  rw [hfin]
  clear hfin
  have HX := Lib.hid hx
  clear hx hc
  unfold Ch.v at *
  obtain ⟨k, v, g⟩ := c
  dsimp only at *
  have hm : ((k.size : Int) % 256) = k.size := by omega
  cases g with
  | true =>
    have HY : (⟨#[UInt8.ofNat (1 : Int).toNat, UInt8.ofNat (k.size : Int).toNat]⟩ : ByteArray) = x := HX.out.symm
    go_enter Tryz.func196, Tryz.ntmps196
    go_wp2_with (first | (go_at_call 100; (with_reducible apply Calls.mono (hC _ (Own.immOf (φ := LibOk) hO pk_)); rintro e8 w8 ⟨rfl, hx8⟩; replace hO := hO.ext hx8; clear hx8; dsimp only; ((try clear hf); have hf := fa_ hO))) | ((refine wpList_bytes_own4 hO (r := Var _ [.int .u8 1, .int .u8 (k.size : Int)] 5) pk_ rfl (.tmp 18) 174 9 5 rfl Tryz.underlying174 Tryz.intU8 Tryz.underlying9 _ 0 2 2 [1, (k.size : Int)] rfl rfl (fun j u hj => Var.at (t := 5) (hO.factOf (r := Var _ [.int .u8 1, .int .u8 (k.size : Int)] 5) pk_) j u hj) ?_; rw [push_two]); rw [HY]) | ((refine sy_ hO ?_); clear hO; intro w9 hO; (try dsimp only [List.set] at hO); ((try clear hf); have hf := fa_ hO)))
    go_ret2
    exact ⟨rfl, hO.toExt⟩
  | false =>
    have HY : (⟨#[UInt8.ofNat (0 : Int).toNat, UInt8.ofNat (k.size : Int).toNat]⟩ : ByteArray) = x := HX.out.symm
    go_enter Tryz.func196, Tryz.ntmps196
    go_wp2_with (first | (go_at_call 100; (with_reducible apply Calls.mono (hC _ (Own.immOf (φ := LibOk) hO pk_)); rintro e8 w8 ⟨rfl, hx8⟩; replace hO := hO.ext hx8; clear hx8; dsimp only; ((try clear hf); have hf := fa_ hO))) | ((refine wpList_bytes_own4 hO (r := Var _ [.int .u8 0, .int .u8 (k.size : Int)] 5) pk_ rfl (.tmp 18) 174 9 5 rfl Tryz.underlying174 Tryz.intU8 Tryz.underlying9 _ 0 2 2 [0, (k.size : Int)] rfl rfl (fun j u hj => Var.at (t := 5) (hO.factOf (r := Var _ [.int .u8 0, .int .u8 (k.size : Int)] 5) pk_) j u hj) ?_; rw [push_two]); rw [HY]) | ((refine sy_ hO ?_); clear hO; intro w9 hO; (try dsimp only [List.set] at hO); ((try clear hf); have hf := fa_ hO)))
    go_ret2
    exact ⟨rfl, hO.toExt⟩

end Go.Proofs.YtmknhibaoopjjaaGreatDoor
namespace Go.Proofs.YtmknhibaoopjjaaGreatDoor
open Go.RowKit
/-- The bytes hold a change so. -/
structure Reads3 (s : ByteArray) (c : Ch) : Prop where
  h2 : 2 ≤ s.size
  h0 : (s[0]'(by omega)).toNat ≤ 1
  h1 : 2 + (s[1]'(by omega)).toNat ≤ s.size
  key : c.key = s.extract 2 (2 + (s[1]'(by omega)).toNat)
  val : c.val = s.extract (2 + (s[1]'(by omega)).toNat) s.size
  gone : c.gone = ((s[0]'(by omega)).toNat == 1)
set_option maxHeartbeats 2000000 in
set_option maxRecDepth 100000 in
theorem parse_ok (s : ByteArray) (c : Ch) (w : World) (h : LibOk w) (hs : s.size ≤ 300) (hr : Reads3 s c) (hc : ChOk c) : Calls Tryz.prog 154 #[.string s] w fun e w' => e = .returned (.tuple #[c.v, .nilIface]) ∧ Ext w w' := by
  have hx1 := key_size hc.1
  have hx2 := hc.2.2
  have hO := lib_base h; have hC := fun w h => chCheck_any c w h (by omega) (by omega)
  have h20 : 0 < s.size := by have := hr.h2; omega
  have hg : c.gone = ((s[0]'h20).toNat == 1) := hr.gone
  obtain ⟨h2, h0, h1, hk, hv, -⟩ := hr
  rw [chN_ok hc] at hC
  try rw [show errV 0 = .nilIface from rfl] at hC
  clear hx1 hx2
  obtain ⟨k, v, g⟩ := c
  dsimp only at hk hv hg
  clear hc
  unfold Ch.v at *
  dsimp only at hC ⊢
  subst hk
  subst hv
  have hz : (s[0]'h20).toNat = 0 ∨ (s[0]'h20).toNat = 1 := by omega
  rcases hz with hz | hz
  · rw [hz] at hg
    obtain rfl : g = false := hg
    have HZ := Lib.hid hz
    clear hz
    go_enter Tryz.func154, Tryz.ntmps154
    go_wp2_with (first | ((refine sy_ hO ?_); clear hO; intro w9 hO; (try dsimp only [List.set] at hO); ((try clear hf); have hf := fa_ hO)))
    have hz := HZ.out
    (refine wp_region_run (fun _ => True) (fun _ _ _ _ => trivial) trivial ((0, 0) :: (0, 1) :: (0, 2) :: (0, 3) :: (0, 4) :: (0, 5) :: (0, 6) :: (0, 7) :: (0, 8) :: (0, 9) :: (4, 10) :: (5, 11) :: []) (by kernel_rfl) (by kernel_rfl) rfl (fun _ _ d _ _ h => by cases d <;> exact h) ?_; intro w9 hx9; replace hO := hO.ext hx9; clear hx9; ((try clear hf); have hf := fa_ hO); (repeat (first | (apply inRun_p _ rfl rfl rfl; focus (intro w8 K8 hK8; (repeat (first | go_skip | go_guarded | go_step)); exact hK8)) | (apply inRun_l _ rfl rfl rfl; focus (intro w8 hx8 K8 hK8; have hO := hO.ext hx8; ((try clear hf); have hf := fa_ hO); skip; (repeat (first | go_skip | go_guarded | go_step)); exact hK8)) | (apply inRun_q _ rfl; (focus (intro w8 hx8 K8 hK8; have hO := hO.ext hx8; ((try clear hf); have hf := fa_ hO); (repeat (first | go_skip | go_guarded | go_step | fail)); (first | exact xt_ | exact hK8 _ xt_))); (focus (exact rfl)); intro w8 hx8; replace hO := hO.ext hx8; clear hx8; ((try clear hf); have hf := fa_ hO)))))
    (refine inRun_x rfl ?_; intro K8 hK8; (repeat (first | go_skip | go_guarded | go_step)); refine hK8 _ _ xt_ ?_; clear hK8 K8; with_reducible refine inRun_alloc_own hO ?_; clear hO; intro w9 hO; ((try clear hf); have hf := fa_ hO))
    (refine inRun_d rfl ?_; intro K8 hK8; (repeat (first | go_skip | go_guarded | go_step)); refine hK8 _ _ trivial ?_; clear hK8 K8; with_reducible apply inRun_set_own; (focus (exact st_ hO)); clear hO; intro w9 hO; (try dsimp only [List.set] at hO); ((try clear hf); have hf := fa_ hO))
    refine inRun_nil ?_
    go_wp2_with (first | (go_at_call 100; (with_reducible apply Calls.mono (hC _ (Own.immOf (φ := LibOk) hO pk_)); rintro e8 w8 ⟨rfl, hx8⟩; replace hO := hO.ext hx8; clear hx8; dsimp only; ((try clear hf); have hf := fa_ hO))) | ((refine sy_ hO ?_); clear hO; intro w9 hO; (try dsimp only [List.set] at hO); ((try clear hf); have hf := fa_ hO)))
    refine bodyPost_run rfl fun K hK => ?_; simp [results, Tryz.results154, go_sem, hf]; exact hK _ ⟨rfl, hO.toExt⟩
  · rw [hz] at hg
    obtain rfl : g = true := hg
    have HZ := Lib.hid hz
    clear hz
    go_enter Tryz.func154, Tryz.ntmps154
    go_wp2_with (first | ((refine sy_ hO ?_); clear hO; intro w9 hO; (try dsimp only [List.set] at hO); ((try clear hf); have hf := fa_ hO)))
    have hz := HZ.out
    (refine wp_region_run (fun _ => True) (fun _ _ _ _ => trivial) trivial ((0, 0) :: (0, 1) :: (0, 2) :: (0, 3) :: (0, 4) :: (0, 5) :: (0, 6) :: (0, 7) :: (0, 8) :: (0, 9) :: (4, 10) :: (5, 11) :: []) (by kernel_rfl) (by kernel_rfl) rfl (fun _ _ d _ _ h => by cases d <;> exact h) ?_; intro w9 hx9; replace hO := hO.ext hx9; clear hx9; ((try clear hf); have hf := fa_ hO); (repeat (first | (apply inRun_p _ rfl rfl rfl; focus (intro w8 K8 hK8; (repeat (first | go_skip | go_guarded | go_step)); exact hK8)) | (apply inRun_l _ rfl rfl rfl; focus (intro w8 hx8 K8 hK8; have hO := hO.ext hx8; ((try clear hf); have hf := fa_ hO); skip; (repeat (first | go_skip | go_guarded | go_step)); exact hK8)) | (apply inRun_q _ rfl; (focus (intro w8 hx8 K8 hK8; have hO := hO.ext hx8; ((try clear hf); have hf := fa_ hO); (repeat (first | go_skip | go_guarded | go_step | fail)); (first | exact xt_ | exact hK8 _ xt_))); (focus (exact rfl)); intro w8 hx8; replace hO := hO.ext hx8; clear hx8; ((try clear hf); have hf := fa_ hO)))))
    (refine inRun_x rfl ?_; intro K8 hK8; (repeat (first | go_skip | go_guarded | go_step)); refine hK8 _ _ xt_ ?_; clear hK8 K8; with_reducible refine inRun_alloc_own hO ?_; clear hO; intro w9 hO; ((try clear hf); have hf := fa_ hO))
    (refine inRun_d rfl ?_; intro K8 hK8; (repeat (first | go_skip | go_guarded | go_step)); refine hK8 _ _ trivial ?_; clear hK8 K8; with_reducible apply inRun_set_own; (focus (exact st_ hO)); clear hO; intro w9 hO; (try dsimp only [List.set] at hO); ((try clear hf); have hf := fa_ hO))
    refine inRun_nil ?_
    go_wp2_with (first | (go_at_call 100; (with_reducible apply Calls.mono (hC _ (Own.immOf (φ := LibOk) hO pk_)); rintro e8 w8 ⟨rfl, hx8⟩; replace hO := hO.ext hx8; clear hx8; dsimp only; ((try clear hf); have hf := fa_ hO))) | ((refine sy_ hO ?_); clear hO; intro w9 hO; (try dsimp only [List.set] at hO); ((try clear hf); have hf := fa_ hO)))
    refine bodyPost_run rfl fun K hK => ?_; simp [results, Tryz.results154, go_sem, hf]; exact hK _ ⟨rfl, hO.toExt⟩
set_option maxHeartbeats 2000000 in
set_option maxRecDepth 100000 in
theorem parse_bad (s : ByteArray) (c : Ch) (w : World) (h : LibOk w) (hs : s.size ≤ 300) (hr : Reads3 s c) (hc : ¬ ChOk c) : Calls Tryz.prog 154 #[.string s] w fun e w' => e = .returned (.tuple #[.agg #[.string ⟨#[]⟩, .string ⟨#[]⟩, .bool false], errV 4]) ∧ Ext w w' := by
  have hx1 : c.key.size ≤ 300 := by rw [hr.key, ByteArray.size_extract]; omega
  have hx2 : c.val.size ≤ 1000 := by rw [hr.val, ByteArray.size_extract]; omega
  have hO := lib_base h; have hC := fun w h => chCheck_any c w h hx1 hx2
  have h20 : 0 < s.size := by have := hr.h2; omega
  have hg : c.gone = ((s[0]'h20).toNat == 1) := hr.gone
  obtain ⟨h2, h0, h1, hk, hv, -⟩ := hr
  obtain ⟨m, hm⟩ : ∃ m, chN c = m + 1 := ⟨chN c - 1, by have : chN c ≠ 0 := fun e => hc (chN_zero.1 e); omega⟩
  rw [hm] at hC
  try rw [show errV (m + 1) = .iface 127 (.int .i64 ((m + 1 : Nat) : Int)) from rfl] at hC
  rw [show (errV 4 : Value) = .iface 127 (.int .i64 4) from rfl]
  clear hx1 hx2 hm
  obtain ⟨k, v, g⟩ := c
  dsimp only at hk hv hg
  clear hc
  unfold Ch.v at *
  dsimp only at hC ⊢
  subst hk
  subst hv
  have hz : (s[0]'h20).toNat = 0 ∨ (s[0]'h20).toNat = 1 := by omega
  rcases hz with hz | hz
  · rw [hz] at hg
    obtain rfl : g = false := hg
    have HZ := Lib.hid hz
    clear hz
    go_enter Tryz.func154, Tryz.ntmps154
    go_wp2_with (first | ((refine sy_ hO ?_); clear hO; intro w9 hO; (try dsimp only [List.set] at hO); ((try clear hf); have hf := fa_ hO)))
    have hz := HZ.out
    (refine wp_region_run (fun _ => True) (fun _ _ _ _ => trivial) trivial ((0, 0) :: (0, 1) :: (0, 2) :: (0, 3) :: (0, 4) :: (0, 5) :: (0, 6) :: (0, 7) :: (0, 8) :: (0, 9) :: (4, 10) :: (5, 11) :: []) (by kernel_rfl) (by kernel_rfl) rfl (fun _ _ d _ _ h => by cases d <;> exact h) ?_; intro w9 hx9; replace hO := hO.ext hx9; clear hx9; ((try clear hf); have hf := fa_ hO); (repeat (first | (apply inRun_p _ rfl rfl rfl; focus (intro w8 K8 hK8; (repeat (first | go_skip | go_guarded | go_step)); exact hK8)) | (apply inRun_l _ rfl rfl rfl; focus (intro w8 hx8 K8 hK8; have hO := hO.ext hx8; ((try clear hf); have hf := fa_ hO); skip; (repeat (first | go_skip | go_guarded | go_step)); exact hK8)) | (apply inRun_q _ rfl; (focus (intro w8 hx8 K8 hK8; have hO := hO.ext hx8; ((try clear hf); have hf := fa_ hO); (repeat (first | go_skip | go_guarded | go_step | fail)); (first | exact xt_ | exact hK8 _ xt_))); (focus (exact rfl)); intro w8 hx8; replace hO := hO.ext hx8; clear hx8; ((try clear hf); have hf := fa_ hO)))))
    (refine inRun_x rfl ?_; intro K8 hK8; (repeat (first | go_skip | go_guarded | go_step)); refine hK8 _ _ xt_ ?_; clear hK8 K8; with_reducible refine inRun_alloc_own hO ?_; clear hO; intro w9 hO; ((try clear hf); have hf := fa_ hO))
    (refine inRun_d rfl ?_; intro K8 hK8; (repeat (first | go_skip | go_guarded | go_step)); refine hK8 _ _ trivial ?_; clear hK8 K8; with_reducible apply inRun_set_own; (focus (exact st_ hO)); clear hO; intro w9 hO; (try dsimp only [List.set] at hO); ((try clear hf); have hf := fa_ hO))
    refine inRun_nil ?_
    go_wp2_with (first | (go_at_call 100; (with_reducible apply Calls.mono (hC _ (Own.immOf (φ := LibOk) hO pk_)); rintro e8 w8 ⟨rfl, hx8⟩; replace hO := hO.ext hx8; clear hx8; dsimp only; ((try clear hf); have hf := fa_ hO))) | ((refine sy_ hO ?_); clear hO; intro w9 hO; (try dsimp only [List.set] at hO); ((try clear hf); have hf := fa_ hO)))
    all_goals first | (refine bodyPost_run rfl fun K hK => ?_; simp [results, Tryz.results154, go_sem, hf]; exact hK _ ⟨rfl, hO.toExt⟩; done) | (exfalso; omega)
  · rw [hz] at hg
    obtain rfl : g = true := hg
    have HZ := Lib.hid hz
    clear hz
    go_enter Tryz.func154, Tryz.ntmps154
    go_wp2_with (first | ((refine sy_ hO ?_); clear hO; intro w9 hO; (try dsimp only [List.set] at hO); ((try clear hf); have hf := fa_ hO)))
    have hz := HZ.out
    (refine wp_region_run (fun _ => True) (fun _ _ _ _ => trivial) trivial ((0, 0) :: (0, 1) :: (0, 2) :: (0, 3) :: (0, 4) :: (0, 5) :: (0, 6) :: (0, 7) :: (0, 8) :: (0, 9) :: (4, 10) :: (5, 11) :: []) (by kernel_rfl) (by kernel_rfl) rfl (fun _ _ d _ _ h => by cases d <;> exact h) ?_; intro w9 hx9; replace hO := hO.ext hx9; clear hx9; ((try clear hf); have hf := fa_ hO); (repeat (first | (apply inRun_p _ rfl rfl rfl; focus (intro w8 K8 hK8; (repeat (first | go_skip | go_guarded | go_step)); exact hK8)) | (apply inRun_l _ rfl rfl rfl; focus (intro w8 hx8 K8 hK8; have hO := hO.ext hx8; ((try clear hf); have hf := fa_ hO); skip; (repeat (first | go_skip | go_guarded | go_step)); exact hK8)) | (apply inRun_q _ rfl; (focus (intro w8 hx8 K8 hK8; have hO := hO.ext hx8; ((try clear hf); have hf := fa_ hO); (repeat (first | go_skip | go_guarded | go_step | fail)); (first | exact xt_ | exact hK8 _ xt_))); (focus (exact rfl)); intro w8 hx8; replace hO := hO.ext hx8; clear hx8; ((try clear hf); have hf := fa_ hO)))))
    (refine inRun_x rfl ?_; intro K8 hK8; (repeat (first | go_skip | go_guarded | go_step)); refine hK8 _ _ xt_ ?_; clear hK8 K8; with_reducible refine inRun_alloc_own hO ?_; clear hO; intro w9 hO; ((try clear hf); have hf := fa_ hO))
    (refine inRun_d rfl ?_; intro K8 hK8; (repeat (first | go_skip | go_guarded | go_step)); refine hK8 _ _ trivial ?_; clear hK8 K8; with_reducible apply inRun_set_own; (focus (exact st_ hO)); clear hO; intro w9 hO; (try dsimp only [List.set] at hO); ((try clear hf); have hf := fa_ hO))
    refine inRun_nil ?_
    go_wp2_with (first | (go_at_call 100; (with_reducible apply Calls.mono (hC _ (Own.immOf (φ := LibOk) hO pk_)); rintro e8 w8 ⟨rfl, hx8⟩; replace hO := hO.ext hx8; clear hx8; dsimp only; ((try clear hf); have hf := fa_ hO))) | ((refine sy_ hO ?_); clear hO; intro w9 hO; (try dsimp only [List.set] at hO); ((try clear hf); have hf := fa_ hO)))
    all_goals first | (refine bodyPost_run rfl fun K hK => ?_; simp [results, Tryz.results154, go_sem, hf]; exact hK _ ⟨rfl, hO.toExt⟩; done) | (exfalso; omega)
set_option maxHeartbeats 2000000 in
set_option maxRecDepth 100000 in
theorem parse_few (s : ByteArray) (w : World) (h : LibOk w) (hs : s.size ≤ 300) (hr : ¬ ∃ c, Reads3 s c) : Calls Tryz.prog 154 #[.string s] w fun e w' => e = .returned (.tuple #[.agg #[.string ⟨#[]⟩, .string ⟨#[]⟩, .bool false], errV 4]) ∧ Ext w w' := by
  rw [show (errV 4 : Value) = .iface 127 (.int .i64 4) from rfl]
  have hO := Own.start w (fun _ => False)
  by_cases h2 : 2 ≤ s.size
  · have h01 : ¬ ((s[0]'(by omega)).toNat ≤ 1 ∧ 2 + (s[1]'(by omega)).toNat ≤ s.size) := fun ⟨h0, h1⟩ => hr ⟨⟨s.extract 2 (2 + (s[1]'(by omega)).toNat), s.extract (2 + (s[1]'(by omega)).toNat) s.size, (s[0]'(by omega)).toNat == 1⟩, ⟨h2, h0, h1, rfl, rfl, rfl⟩⟩
    clear hr
    have hb : (s[1]'(by omega)).toNat < 256 := UInt8.toNat_lt _
    by_cases h0 : (s[0]'(by omega)).toNat ≤ 1
    · have h1 : ¬ 2 + (s[1]'(by omega)).toNat ≤ s.size := fun h => h01 ⟨h0, h⟩
      clear h01
      go_enter Tryz.func154, Tryz.ntmps154
      go_wp2_with (first | ((refine sy_ hO ?_); clear hO; intro w9 hO; (try dsimp only [List.set] at hO); ((try clear hf); have hf := fa_ hO)))
      all_goals first | (refine bodyPost_run rfl fun K hK => ?_; simp [results, Tryz.results154, go_sem, hf]; exact hK _ ⟨rfl, hO.toExt⟩; done) | (exfalso; omega)
    · clear h01
      go_enter Tryz.func154, Tryz.ntmps154
      go_wp2_with (first | ((refine sy_ hO ?_); clear hO; intro w9 hO; (try dsimp only [List.set] at hO); ((try clear hf); have hf := fa_ hO)))
      all_goals first | (refine bodyPost_run rfl fun K hK => ?_; simp [results, Tryz.results154, go_sem, hf]; exact hK _ ⟨rfl, hO.toExt⟩; done) | (exfalso; omega)
  · clear hr
    go_enter Tryz.func154, Tryz.ntmps154
    go_wp2_with (first | ((refine sy_ hO ?_); clear hO; intro w9 hO; (try dsimp only [List.set] at hO); ((try clear hf); have hf := fa_ hO)))
    all_goals first | (refine bodyPost_run rfl fun K hK => ?_; simp [results, Tryz.results154, go_sem, hf]; exact hK _ ⟨rfl, hO.toExt⟩; done) | (exfalso; omega)

end Go.Proofs.YtmknhibaoopjjaaGreatDoor
