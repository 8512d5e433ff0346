/- Names, keys, numbers, rows: the law's code. -/
import Derived.Test.YtmjdgcgmlgbfjaaDoorRow9
import Derived.Test.YtmjdgcgmlgbfjaaDoorTopRow
set_option linter.unusedVariables false
set_option linter.unusedSimpArgs false
namespace Go.Proofs.YtmjdgcgmlgbfjaaDoor
open Go.RowKit
theorem queueText_both (a b : Int) (d : ByteArray) (hds : d.size ≤ 50) : ∃ (x : ByteArray) (n : Nat), n ≤ 1000 ∧
    (∀ w, LibOk w → Calls Tryd.prog 23 #[.agg #[.int .i64 a, .int .i64 b, .string d]] w fun e w' => e = .returned (.tuple #[.string x, errV n]) ∧ Ext w w') ∧
    (∀ w, Calls Tryd.prog 24 #[.agg #[.int .i64 a, .int .i64 b, .string d]] w fun e w' => e = .returned (.tuple #[.string x, .int .i64 n]) ∧ Ext w w') := by
  by_cases h1 : a < 0 ∨ 999999 < a ∨ b < 1 ∨ 9 < b
  · exact ⟨⟨#[]⟩, 1, by omega, fun w h => queueText_bound a b d w h h1, fun w => rqueueText_bound a b d w h1⟩
  · by_cases h2 : d.size = 0 ∨ NameOk d
    · obtain ⟨k, rfl⟩ := Int.eq_ofNat_of_zero_le (show 0 ≤ a by omega)
      obtain ⟨m, rfl⟩ := Int.eq_ofNat_of_zero_le (show 0 ≤ b by omega)
      exact ⟨rowS k m d, 0, by omega, fun w h => queueText_ok k m d w h (by omega) (by omega) (by omega) h2 hds, fun w => rqueueText_ok k m d w (by omega) (by omega) (by omega) h2 hds⟩
    · exact ⟨⟨#[]⟩, 3, by omega, fun w h => queueText_shape a b d w h h1 h2 hds, fun w => rqueueText_shape a b d w h1 h2 hds⟩
theorem messageText_both (n a b : Int) (d : ByteArray) : ∃ (x : ByteArray) (m : Nat), m ≤ 1000 ∧
    (∀ w, LibOk w → Calls Tryd.prog 27 #[.agg #[.int .i64 n, .int .i64 a, .int .i64 b, .string d]] w fun e w' => e = .returned (.tuple #[.string x, errV m]) ∧ Ext w w') ∧
    (∀ w, Calls Tryd.prog 28 #[.agg #[.int .i64 n, .int .i64 a, .int .i64 b, .string d]] w fun e w' => e = .returned (.tuple #[.string x, .int .i64 m]) ∧ Ext w w') := by
  by_cases h1 : a < 0 ∨ 9 < a ∨ b < 0 ∨ 2000000 < b ∨ 28 < d.size
  · exact ⟨⟨#[]⟩, 1, by omega, fun w h => messageText_bound n a b d w h h1, fun w => rmessageText_bound n a b d w h1⟩
  · obtain ⟨k, rfl⟩ := Int.eq_ofNat_of_zero_le (show 0 ≤ a by omega)
    obtain ⟨m, rfl⟩ := Int.eq_ofNat_of_zero_le (show 0 ≤ b by omega)
    exact ⟨rowS k m d, 0, by omega, fun w h => messageText_ok n k m d w h (by omega) (by omega) (by omega), fun w => rmessageText_ok n k m d w (by omega) (by omega) (by omega)⟩
theorem parseQueue_both (s : ByteArray) (hs : s.size ≤ 100) : ∃ (a b : Int) (d : ByteArray) (m : Nat), m ≤ 1000 ∧
    (∀ w, LibOk w → Calls Tryd.prog 25 #[.string s] w fun e w' => e = .returned (.tuple #[.agg #[.int .i64 a, .int .i64 b, .string d], errV m]) ∧ Ext w w') ∧
    (∀ w, Calls Tryd.prog 26 #[.string s] w fun e w' => e = .returned (.tuple #[.agg #[.int .i64 a, .int .i64 b, .string d], .int .i64 m]) ∧ Ext w w') := by
  by_cases h : ∃ a b d, QRow s a b d
  · obtain ⟨a, b, d, h⟩ := h
    have h2 := h
    obtain ⟨he, ha, hb1, hb2, hd⟩ := h
    have hds : d.size ≤ 50 := by
      rcases hd with hd | hd
      · omega
      · have := hd.2.1; omega
    exact ⟨a, b, d, 0, by omega, fun w h => by rw [he]; exact parseQueue_ok a b d w h ha hb1 hb2 hd hds, fun w => queueOf_yes s a b d w (by omega) h2⟩
  · exact ⟨0, 0, ⟨#[]⟩, 4, by omega, fun w hl => parseQueue_no s w hl (by omega) h, fun w => queueOf_no s w (by omega) h⟩
theorem parseMessage_both (n : Int) (s : ByteArray) (hs : s.size ≤ 100) : ∃ (k a b : Int) (d : ByteArray) (m : Nat), m ≤ 1000 ∧
    (∀ w, LibOk w → Calls Tryd.prog 29 #[.int .i64 n, .string s] w fun e w' => e = .returned (.tuple #[.agg #[.int .i64 k, .int .i64 a, .int .i64 b, .string d], errV m]) ∧ Ext w w') ∧
    (∀ w, Calls Tryd.prog 30 #[.int .i64 n, .string s] w fun e w' => e = .returned (.tuple #[.agg #[.int .i64 k, .int .i64 a, .int .i64 b, .string d], .int .i64 m]) ∧ Ext w w') := by
  by_cases h : ∃ a b d, MRow s a b d
  · obtain ⟨a, b, d, h⟩ := h
    have h2 := h
    obtain ⟨he, ha, hb, hd⟩ := h
    exact ⟨n, a, b, d, 0, by omega, fun w h => by rw [he]; exact parseMessage_ok n a b d w h ha hb hd, fun w => messageOf_yes n s a b d w (by omega) h2⟩
  · exact ⟨0, 0, 0, ⟨#[]⟩, 4, by omega, fun w hl => parseMessage_no n s w hl (by omega) h, fun w => messageOf_no n s w (by omega) h⟩
def aB : ByteArray := ⟨#[97]⟩
def qqB : ByteArray := ⟨#[113]⟩
set_option maxHeartbeats 2000000 in
set_option maxRecDepth 100000 in
theorem keys_any (w : World) (h : LibOk w) : Calls Tryd.prog 12 #[] w fun e w' => e = .returned (.bool true) ∧ Ext w w' := by
  have hO := lib_base h
  have H1 := fun w => table_any ⟨#[97]⟩ w (by decide)
  have H2 := fun w => queue_any ⟨#[113]⟩ w (by decide)
  have H3 := fun w h => message_any ⟨#[113]⟩ 7 w (by decide) h (by omega)
  have e1 : tabB ⟨#[97]⟩ = ⟨#[116, 47, 97]⟩ := by decide +kernel
  have e2 : queB ⟨#[113]⟩ = ⟨#[113, 47, 113]⟩ := by decide +kernel
  have e3 : msgB ⟨#[113]⟩ (Int.toNat 7) = ⟨#[109, 47, 113, 47, 48, 48, 48, 48, 48, 55]⟩ := by decide +kernel
  have e4 : keyN ⟨#[109, 47, 113, 47, 48, 48, 48, 48, 48, 55]⟩ = 0 := keyN_yes (by
    right
    refine ⟨⟨#[113]⟩, 7, by decide, by omega, ?_⟩
    rw [← e3]; rfl)
  have H4 := fun w h => check_any ⟨#[109, 47, 113, 47, 48, 48, 48, 48, 48, 55]⟩ w h (by decide)
  rw [e1] at H1
  rw [e2] at H2
  rw [e3] at H3
  rw [e4] at H4
  have H5 : ∀ w, Calls Tryd.prog 9 #[errV 0, .int .i64 0] w fun e w' => e = .returned (.bool true) ∧ w' = w := fun w => same_any 0 0 w (by omega) (by omega)
  clear e1 e2 e3 e4
  go_enter Tryd.func12, Tryd.ntmps12
  go_wp2_with (first | (go_at_call 15; (with_reducible apply Calls.mono (H1 _); rintro e8 w8 ⟨rfl, rfl⟩; dsimp only)) | (go_at_call 16; (with_reducible apply Calls.mono (H2 _); rintro e8 w8 ⟨rfl, rfl⟩; dsimp only)) | (go_at_call 17; (with_reducible apply Calls.mono (H3 _ (Own.immOf (φ := LibOk) hO (by repeat (first | with_reducible exact Pick.here _ _ | with_reducible apply Pick.there)))); rintro e8 w8 ⟨rfl, hx8⟩; replace hO := hO.ext hx8; clear hx8; dsimp only; ((try clear hf); have hf := hO.facts; (try simp only [FX, Nat.zero_add, Nat.reduceAdd, and_true, true_and, List.map_cons, List.map_nil, List.cons_append, List.nil_append] at hf)))) | (go_at_call 21; (with_reducible apply Calls.mono (H4 _ (Own.immOf (φ := LibOk) hO (by repeat (first | with_reducible exact Pick.here _ _ | with_reducible apply Pick.there)))); rintro e8 w8 ⟨rfl, hx8⟩; replace hO := hO.ext hx8; clear hx8; dsimp only; ((try clear hf); have hf := hO.facts; (try simp only [FX, Nat.zero_add, Nat.reduceAdd, and_true, true_and, List.map_cons, List.map_nil, List.cons_append, List.nil_append] at hf)))) | (go_at_call 9; (with_reducible apply Calls.mono (H5 _); rintro e8 w8 ⟨rfl, rfl⟩; dsimp only)) | ((first | with_reducible refine wpList_alloc_own hO ?_ | with_reducible refine wpList_drew_own hO ?_ | with_reducible refine wp_alloc_own hO ?_ | with_reducible refine wp_drew_own hO ?_ | with_reducible refine bodyPost_alloc_own hO ?_ | with_reducible refine bodyPost_drew_own hO ?_ | ((first | with_reducible apply wpList_set_own | with_reducible apply wp_set_own | with_reducible apply bodyPost_set_own); (focus (first | (with_reducible apply Own.set; (focus (with_reducible apply hO)); (repeat (first | with_reducible exact Put.here _ _ _ | with_reducible apply Put.there)); done) | (with_reducible apply Own.setRow; (focus (with_reducible apply hO)); (focus (repeat (first | with_reducible exact Put.here _ _ _ | with_reducible apply Put.there))); first | assumption | (simp; omega) | (simp; assumption)) | ((repeat' (first | with_reducible apply hO | with_reducible apply Own.set)); all_goals (repeat (first | with_reducible exact Put.here _ _ _ | with_reducible apply Put.there)); done))))); clear hO; intro w9 hO; (try dsimp only [List.set] at hO); ((try clear hf); have hf := hO.facts; (try simp only [FX, Nat.zero_add, Nat.reduceAdd, and_true, true_and, List.map_cons, List.map_nil, List.cons_append, List.nil_append] at hf))))
  go_ret
  exact ⟨rfl, hO.toExt⟩
theorem same_self (m : Nat) (h : m ≤ 1000) (w : World) : Calls Tryd.prog 9 #[errV m, .int .i64 m] w fun e w' => e = .returned (.bool true) ∧ w' = w := by
  have := same_any m m w h h
  rwa [beq_self_eq_true] at this
set_option maxHeartbeats 4000000 in
set_option maxRecDepth 100000 in
theorem rowSays_any (name key : ByteArray) (n a b : Int) (d : ByteArray) (mn ma mb : Int) (body s : ByteArray) (w : World) (h : LibOk w) (hn : n ≤ 9223372036854775807) :
    Calls Tryd.prog 4 #[.string name, .string key, .int .i64 n, .agg #[.int .i64 a, .int .i64 b, .string d], .agg #[.int .i64 mn, .int .i64 ma, .int .i64 mb, .string body], .string s] w fun e w' => e = .returned (.bool true) ∧ Ext w w' := by
  have hO := lib_base h
  have HK := keys_any
  by_cases hlen : name.size ≤ 50 ∧ key.size ≤ 60 ∧ s.size ≤ 100 ∧ d.size ≤ 50 ∧ body.size ≤ 100
  · obtain ⟨l1, l2, l3, l4, l5⟩ := hlen
    have N1 := fun w => name_any name w (by omega)
    have N2 := fun w => nameMay_any name w (by omega)
    generalize decide (NameOk name) = nb at *
    have T1 := fun w => table_any name w (by omega)
    have T2 := fun w => queue_any name w (by omega)
    have e1 : (⟨#[116, 47]⟩ : ByteArray) ++ name = tabB name := ba_ext (by unfold tabB; rw [app_data, app_data, app_data]; rfl)
    have e2 : (⟨#[113, 47]⟩ : ByteArray) ++ name = queB name := ba_ext (by unfold queB; rw [app_data, app_data, app_data]; rfl)
    have M1 := fun w h => message_any name n w (by omega) h hn
    have M2 := fun w => messageKey_any name n w (by omega)
    have S1 := fun w => messages_any name w (by omega)
    have S2 := fun w => messagesSpan_any name w (by omega)
    have C1 := fun w h => check_any key w h (by omega)
    have C2 := fun w => keyFault_any key w (by omega)
    have hk : keyN key ≤ 1000 := by unfold keyN; split <;> omega
    have C3 := same_self (keyN key) hk
    obtain ⟨q1, q1n, h1, Q1, Q2⟩ := queueText_both a b d (by omega)
    obtain ⟨pa, pb, pd, pn, h2, P1, P2⟩ := parseQueue_both s (by omega)
    obtain ⟨q3, q3n, h3, Q3, Q4⟩ := messageText_both mn ma mb body
    obtain ⟨rk, ra, rb, rd, rn, h4, R1, R2⟩ := parseMessage_both n s (by omega)
    have E1 := same_self q1n h1
    have E2 := same_self pn h2
    have E3 := same_self q3n h3
    have E4 := same_self rn h4
    rw [← e1] at T1
    rw [← e2] at T2
    clear e1 e2
    generalize msgB name n.toNat = mB' at *
    generalize loB name = lo' at *
    generalize hiB name = hi' at *
    generalize keyN key = kn at *
    clear h1 h2 h3 h4 hk
    go_enter Tryd.func4, Tryd.ntmps4
    go_wp2_with (first | (go_at_call 12; (with_reducible apply Calls.mono (HK _ (Own.immOf (φ := LibOk) hO (by repeat (first | with_reducible exact Pick.here _ _ | with_reducible apply Pick.there)))); rintro e8 w8 ⟨rfl, hx8⟩; replace hO := hO.ext hx8; clear hx8; dsimp only; ((try clear hf); have hf := hO.facts; (try simp only [FX, Nat.zero_add, Nat.reduceAdd, and_true, true_and, List.map_cons, List.map_nil, List.cons_append, List.nil_append] at hf)))) | (go_at_call 13; (with_reducible apply Calls.mono (N1 _); rintro e8 w8 ⟨rfl, rfl⟩; dsimp only)) | (go_at_call 14; (with_reducible apply Calls.mono (N2 _); rintro e8 w8 ⟨rfl, rfl⟩; dsimp only)) | (go_at_call 15; (with_reducible apply Calls.mono (T1 _); rintro e8 w8 ⟨rfl, rfl⟩; dsimp only)) | (go_at_call 16; (with_reducible apply Calls.mono (T2 _); rintro e8 w8 ⟨rfl, rfl⟩; dsimp only)) | (go_at_call 17; (with_reducible apply Calls.mono (M1 _ (Own.immOf (φ := LibOk) hO (by repeat (first | with_reducible exact Pick.here _ _ | with_reducible apply Pick.there)))); rintro e8 w8 ⟨rfl, hx8⟩; replace hO := hO.ext hx8; clear hx8; dsimp only; ((try clear hf); have hf := hO.facts; (try simp only [FX, Nat.zero_add, Nat.reduceAdd, and_true, true_and, List.map_cons, List.map_nil, List.cons_append, List.nil_append] at hf)))) | (go_at_call 18; (with_reducible apply Calls.mono (M2 _); rintro e8 w8 ⟨rfl, hx8⟩; replace hO := hO.ext hx8; clear hx8; dsimp only; ((try clear hf); have hf := hO.facts; (try simp only [FX, Nat.zero_add, Nat.reduceAdd, and_true, true_and, List.map_cons, List.map_nil, List.cons_append, List.nil_append] at hf)))) | (go_at_call 19; (with_reducible apply Calls.mono (S1 _); rintro e8 w8 ⟨rfl, hx8⟩; replace hO := hO.ext hx8; clear hx8; dsimp only; ((try clear hf); have hf := hO.facts; (try simp only [FX, Nat.zero_add, Nat.reduceAdd, and_true, true_and, List.map_cons, List.map_nil, List.cons_append, List.nil_append] at hf)))) | (go_at_call 20; (with_reducible apply Calls.mono (S2 _); rintro e8 w8 ⟨rfl, hx8⟩; replace hO := hO.ext hx8; clear hx8; dsimp only; ((try clear hf); have hf := hO.facts; (try simp only [FX, Nat.zero_add, Nat.reduceAdd, and_true, true_and, List.map_cons, List.map_nil, List.cons_append, List.nil_append] at hf)))) | (go_at_call 21; (with_reducible apply Calls.mono (C1 _ (Own.immOf (φ := LibOk) hO (by repeat (first | with_reducible exact Pick.here _ _ | with_reducible apply Pick.there)))); rintro e8 w8 ⟨rfl, hx8⟩; replace hO := hO.ext hx8; clear hx8; dsimp only; ((try clear hf); have hf := hO.facts; (try simp only [FX, Nat.zero_add, Nat.reduceAdd, and_true, true_and, List.map_cons, List.map_nil, List.cons_append, List.nil_append] at hf)))) | (go_at_call 22; (with_reducible apply Calls.mono (C2 _); rintro e8 w8 ⟨rfl, rfl⟩; dsimp only)) | (go_at_call 9; (with_reducible apply Calls.mono (C3 _); rintro e8 w8 ⟨rfl, rfl⟩; dsimp only)) | (go_at_call 23; (with_reducible apply Calls.mono (Q1 _ (Own.immOf (φ := LibOk) hO (by repeat (first | with_reducible exact Pick.here _ _ | with_reducible apply Pick.there)))); rintro e8 w8 ⟨rfl, hx8⟩; replace hO := hO.ext hx8; clear hx8; dsimp only; ((try clear hf); have hf := hO.facts; (try simp only [FX, Nat.zero_add, Nat.reduceAdd, and_true, true_and, List.map_cons, List.map_nil, List.cons_append, List.nil_append] at hf)))) | (go_at_call 24; (with_reducible apply Calls.mono (Q2 _); rintro e8 w8 ⟨rfl, hx8⟩; replace hO := hO.ext hx8; clear hx8; dsimp only; ((try clear hf); have hf := hO.facts; (try simp only [FX, Nat.zero_add, Nat.reduceAdd, and_true, true_and, List.map_cons, List.map_nil, List.cons_append, List.nil_append] at hf)))) | (go_at_call 25; (with_reducible apply Calls.mono (P1 _ (Own.immOf (φ := LibOk) hO (by repeat (first | with_reducible exact Pick.here _ _ | with_reducible apply Pick.there)))); rintro e8 w8 ⟨rfl, hx8⟩; replace hO := hO.ext hx8; clear hx8; dsimp only; ((try clear hf); have hf := hO.facts; (try simp only [FX, Nat.zero_add, Nat.reduceAdd, and_true, true_and, List.map_cons, List.map_nil, List.cons_append, List.nil_append] at hf)))) | (go_at_call 26; (with_reducible apply Calls.mono (P2 _); rintro e8 w8 ⟨rfl, hx8⟩; replace hO := hO.ext hx8; clear hx8; dsimp only; ((try clear hf); have hf := hO.facts; (try simp only [FX, Nat.zero_add, Nat.reduceAdd, and_true, true_and, List.map_cons, List.map_nil, List.cons_append, List.nil_append] at hf)))) | (go_at_call 27; (with_reducible apply Calls.mono (Q3 _ (Own.immOf (φ := LibOk) hO (by repeat (first | with_reducible exact Pick.here _ _ | with_reducible apply Pick.there)))); rintro e8 w8 ⟨rfl, hx8⟩; replace hO := hO.ext hx8; clear hx8; dsimp only; ((try clear hf); have hf := hO.facts; (try simp only [FX, Nat.zero_add, Nat.reduceAdd, and_true, true_and, List.map_cons, List.map_nil, List.cons_append, List.nil_append] at hf)))) | (go_at_call 28; (with_reducible apply Calls.mono (Q4 _); rintro e8 w8 ⟨rfl, hx8⟩; replace hO := hO.ext hx8; clear hx8; dsimp only; ((try clear hf); have hf := hO.facts; (try simp only [FX, Nat.zero_add, Nat.reduceAdd, and_true, true_and, List.map_cons, List.map_nil, List.cons_append, List.nil_append] at hf)))) | (go_at_call 29; (with_reducible apply Calls.mono (R1 _ (Own.immOf (φ := LibOk) hO (by repeat (first | with_reducible exact Pick.here _ _ | with_reducible apply Pick.there)))); rintro e8 w8 ⟨rfl, hx8⟩; replace hO := hO.ext hx8; clear hx8; dsimp only; ((try clear hf); have hf := hO.facts; (try simp only [FX, Nat.zero_add, Nat.reduceAdd, and_true, true_and, List.map_cons, List.map_nil, List.cons_append, List.nil_append] at hf)))) | (go_at_call 30; (with_reducible apply Calls.mono (R2 _); rintro e8 w8 ⟨rfl, hx8⟩; replace hO := hO.ext hx8; clear hx8; dsimp only; ((try clear hf); have hf := hO.facts; (try simp only [FX, Nat.zero_add, Nat.reduceAdd, and_true, true_and, List.map_cons, List.map_nil, List.cons_append, List.nil_append] at hf)))) | (go_at_call 9; (with_reducible apply Calls.mono (E1 _); rintro e8 w8 ⟨rfl, rfl⟩; dsimp only)) | (go_at_call 9; (with_reducible apply Calls.mono (E2 _); rintro e8 w8 ⟨rfl, rfl⟩; dsimp only)) | (go_at_call 9; (with_reducible apply Calls.mono (E3 _); rintro e8 w8 ⟨rfl, rfl⟩; dsimp only)) | (go_at_call 9; (with_reducible apply Calls.mono (E4 _); rintro e8 w8 ⟨rfl, rfl⟩; dsimp only)) | ((first | with_reducible refine wpList_alloc_own hO ?_ | with_reducible refine wpList_drew_own hO ?_ | with_reducible refine wp_alloc_own hO ?_ | with_reducible refine wp_drew_own hO ?_ | with_reducible refine bodyPost_alloc_own hO ?_ | with_reducible refine bodyPost_drew_own hO ?_ | ((first | with_reducible apply wpList_set_own | with_reducible apply wp_set_own | with_reducible apply bodyPost_set_own); (focus (first | (with_reducible apply Own.set; (focus (with_reducible apply hO)); (repeat (first | with_reducible exact Put.here _ _ _ | with_reducible apply Put.there)); done) | (with_reducible apply Own.setRow; (focus (with_reducible apply hO)); (focus (repeat (first | with_reducible exact Put.here _ _ _ | with_reducible apply Put.there))); first | assumption | (simp; omega) | (simp; assumption)) | ((repeat' (first | with_reducible apply hO | with_reducible apply Own.set)); all_goals (repeat (first | with_reducible exact Put.here _ _ _ | with_reducible apply Put.there)); done))))); clear hO; intro w9 hO; (try dsimp only [List.set] at hO); ((try clear hf); have hf := hO.facts; (try simp only [FX, Nat.zero_add, Nat.reduceAdd, and_true, true_and, List.map_cons, List.map_nil, List.cons_append, List.nil_append] at hf))))
    all_goals first | (go_ret; exact ⟨rfl, hO.toExt⟩) | (exfalso; omega) | (exfalso; simp_all; done)
  · have hlen' : 50 < name.size ∨ 60 < key.size ∨ 100 < s.size ∨ 50 < d.size ∨ 100 < body.size := by omega
    clear hlen
    go_enter Tryd.func4, Tryd.ntmps4
    go_wp2_with (first | (go_at_call 12; (with_reducible apply Calls.mono (HK _ (Own.immOf (φ := LibOk) hO (by repeat (first | with_reducible exact Pick.here _ _ | with_reducible apply Pick.there)))); rintro e8 w8 ⟨rfl, hx8⟩; replace hO := hO.ext hx8; clear hx8; dsimp only; ((try clear hf); have hf := hO.facts; (try simp only [FX, Nat.zero_add, Nat.reduceAdd, and_true, true_and, List.map_cons, List.map_nil, List.cons_append, List.nil_append] at hf)))) | ((first | with_reducible refine wpList_alloc_own hO ?_ | with_reducible refine wpList_drew_own hO ?_ | with_reducible refine wp_alloc_own hO ?_ | with_reducible refine wp_drew_own hO ?_ | with_reducible refine bodyPost_alloc_own hO ?_ | with_reducible refine bodyPost_drew_own hO ?_ | ((first | with_reducible apply wpList_set_own | with_reducible apply wp_set_own | with_reducible apply bodyPost_set_own); (focus (first | (with_reducible apply Own.set; (focus (with_reducible apply hO)); (repeat (first | with_reducible exact Put.here _ _ _ | with_reducible apply Put.there)); done) | (with_reducible apply Own.setRow; (focus (with_reducible apply hO)); (focus (repeat (first | with_reducible exact Put.here _ _ _ | with_reducible apply Put.there))); first | assumption | (simp; omega) | (simp; assumption)) | ((repeat' (first | with_reducible apply hO | with_reducible apply Own.set)); all_goals (repeat (first | with_reducible exact Put.here _ _ _ | with_reducible apply Put.there)); done))))); clear hO; intro w9 hO; (try dsimp only [List.set] at hO); ((try clear hf); have hf := hO.facts; (try simp only [FX, Nat.zero_add, Nat.reduceAdd, and_true, true_and, List.map_cons, List.map_nil, List.cons_append, List.nil_append] at hf))))
    all_goals first | (go_ret; exact ⟨rfl, hO.toExt⟩) | (exfalso; omega) | (exfalso; simp_all; done)
end Go.Proofs.YtmjdgcgmlgbfjaaDoor
