/- Package row: texts that stand in no row. -/
import Derived.Test.YtmjdgcgmlgbfjaaDoorWords2
import Derived.Test.YtmjdgcgmlgbfjaaDoorNat
set_option linter.unusedVariables false
set_option linter.unusedSimpArgs false
namespace Go.Proofs.YtmjdgcgmlgbfjaaDoor
open Go.RowKit
theorem atoiV_le (s : ByteArray) (v : Int) (hv : atoiV s = some v) : -9223372036854775808 ≤ v ∧ v ≤ 9223372036854775807 := by
  unfold atoiV at hv
  split at hv
  · injection hv with hv
    subst hv
    rename_i h
    unfold Lib.atoiAll at h
    cases hl : s.data.toList with
    | nil => rw [hl] at h; cases h
    | cons c r =>
      rw [hl] at h
      dsimp only at h
      split at h
      · cases h
      · cases h
      · split at h
        · cases h
        · split at h
          · cases h
          · injection h with h
            rw [← h]
            split <;> omega
  · cases hv
/-- Anything else is no number. -/
theorem number_no (s : ByteArray) (most : Int) (w : World) (h : LibOk w) (hs : s.size ≤ 200) (hm : most ≤ 2000000) (hno : ¬ ∃ n, NumOk s most.toNat n) : Calls Tryd.prog 52 #[.string s, .int .i64 most] w fun e w' => (∃ x, e = .returned (.tuple #[.int .i64 x, .bool false])) ∧ Ext w w' := by
  have hx := Ext.refl w
  cases hv : atoiV s with
  | none =>
    have HA := fun w h => atoi_no s w h (by omega) hv
    go_enter Tryd.func52, Tryd.ntmps52
    go_wp2_with (go_at_call 49; (with_reducible apply Calls.mono (HA _ h); rintro e8 w8 ⟨⟨x8, N8, rfl⟩, hx8⟩; replace h := h.ext hx8; replace hx := hx.trans hx8; clear hx8; dsimp only))
    go_ret2
    exact ⟨⟨x8, rfl⟩, hx⟩
  | some v =>
    obtain ⟨hv1, hv2⟩ := atoiV_le s v hv
    have HA := fun w (h : LibOk w) => atoi_ok s v w (by omega) hv
    have HI := fun w (h : LibOk w) => itoa_any v w h hv1 hv2
    have hc : ((itoaB v).toList == s.toList) = false ∨ v < 0 ∨ most < v := by
      by_cases h1 : v < 0 ∨ most < v
      · exact .inr h1
      · left
        refine list_neq (fun e => hno ⟨v.toNat, by omega, ?_⟩)
        rw [← e, show ((v.toNat : Nat) : Int) = v from by omega]
    clear hno
    generalize itoaB v = y at *
    go_enter Tryd.func52, Tryd.ntmps52
    rcases hc with hc | hc
    · go_wp2_with (first | (go_at_call 49; (with_reducible apply Calls.mono (HA _ h); rintro e8 w8 ⟨rfl, hx8⟩; replace h := h.ext hx8; replace hx := hx.trans hx8; clear hx8; dsimp only)) | (go_at_call 45; (with_reducible apply Calls.mono (HI _ h); rintro e8 w8 ⟨rfl, hx8⟩; replace h := h.ext hx8; replace hx := hx.trans hx8; clear hx8; dsimp only)))
      all_goals first | (exfalso; omega) | (go_ret2; exact ⟨⟨v, rfl⟩, hx⟩)
    · go_wp2_with (first | (go_at_call 49; (with_reducible apply Calls.mono (HA _ h); rintro e8 w8 ⟨rfl, hx8⟩; replace h := h.ext hx8; replace hx := hx.trans hx8; clear hx8; dsimp only)) | (go_at_call 45; (with_reducible apply Calls.mono (HI _ h); rintro e8 w8 ⟨rfl, hx8⟩; replace h := h.ext hx8; replace hx := hx.trans hx8; clear hx8; dsimp only)))
      all_goals first | (exfalso; omega) | (go_ret2; exact ⟨⟨v, rfl⟩, hx⟩) | (go_ret2; refine ⟨⟨v, ?_⟩, hx⟩; simp; omega)
/-- What stands in a queue's row. -/
def QRow (s : ByteArray) (a b : Nat) (d : ByteArray) : Prop := s = rowS a b d ∧ a ≤ 999999 ∧ 1 ≤ b ∧ b ≤ 9 ∧ (d.size = 0 ∨ NameOk d)
def MRow (s : ByteArray) (a b : Nat) (d : ByteArray) : Prop := s = rowS a b d ∧ a ≤ 9 ∧ b ≤ 2000000 ∧ d.size ≤ 28
theorem splitAny (s : ByteArray) (w : World) (h : LibOk w) (hs : s.size ≤ 1000) :
    Calls Tryd.prog 51 #[.string s, .string ⟨#[32]⟩] w fun e w' => e = .returned (.slice (some ⟨w.heap.size, 0, none⟩) (wordsB s).length (wordsB s).length) ∧ w' = w.alloc (.cells ((wordsB s).map .string).toArray 9) := by
  obtain ⟨m, hm⟩ := h.max
  have h1 := Tryd.strings_Split s sp m w (by omega) hm (by decide)
  rw [← split_many s _ (Nat.le_refl _)] at h1
  exact h1
/-- How a text falls into three words, or doesn't. -/
theorem words_or (s : ByteArray) : (wordsB s).length ≠ 3 ∨ ∃ x y z, wordsB s = [x, y, z] := by
  by_cases h : (wordsB s).length = 3
  · right
    match hw : wordsB s, h with
    | [x, y, z], _ => exact ⟨x, y, z, rfl⟩
  · exact .inl h
def QZ : Value := .agg #[.int .i64 0, .int .i64 0, .string ⟨#[]⟩]
def MZ : Value := .agg #[.int .i64 0, .int .i64 0, .int .i64 0, .string ⟨#[]⟩]
theorem number_yes (s : ByteArray) (most : Int) (n : Nat) (w : World) (h : LibOk w) (hm : most ≤ 2000000) (hn : NumOk s most.toNat n) (h0 : 0 ≤ most) : Calls Tryd.prog 52 #[.string s, .int .i64 most] w fun e w' => e = .returned (.tuple #[.int .i64 n, .bool true]) ∧ Ext w w' := by
  rw [hn.2]
  exact number_ok n most w h (by have := hn.1; omega) hm
theorem number_some (s : ByteArray) (most : Int) (w : World) (h : LibOk w) (hs : s.size ≤ 200) (h0 : 0 ≤ most) (hm : most ≤ 2000000) : Calls Tryd.prog 52 #[.string s, .int .i64 most] w fun e w' => (∃ x b, e = .returned (.tuple #[.int .i64 x, .bool b])) ∧ Ext w w' := by
  by_cases hn : ∃ n, NumOk s most.toNat n
  · obtain ⟨n, hn⟩ := hn
    exact (number_yes s most n w h hm hn h0).mono fun e w' ⟨he, hx⟩ => ⟨⟨_, _, he⟩, hx⟩
  · exact (number_no s most w h hs hm hn).mono fun e w' ⟨⟨x, he⟩, hx⟩ => ⟨⟨_, _, he⟩, hx⟩
theorem three_sizes (s x y z : ByteArray) (h : s = x ++ sp ++ (y ++ sp ++ z)) : x.size ≤ s.size ∧ y.size ≤ s.size ∧ z.size ≤ s.size := by
  have : s.size = x.size + 1 + (y.size + 1 + z.size) := by
    rw [h, ByteArray.size_append, ByteArray.size_append, ByteArray.size_append, ByteArray.size_append]; rfl
  omega
set_option maxHeartbeats 4000000 in
set_option maxRecDepth 100000 in
theorem parseQueue_no (s : ByteArray) (w : World) (h : LibOk w) (hs : s.size ≤ 200) (hno : ¬ ∃ a b d, QRow s a b d) :
    Calls Tryd.prog 25 #[.string s] w fun e w' => e = .returned (.tuple #[.agg #[.int .i64 0, .int .i64 0, .string ⟨#[]⟩], .iface 23 (.int .i64 4)]) ∧ Ext w w' := by
  have hO := lib_base h
  have HSP := fun w h => splitAny s w h (by omega)
  rcases words_or s with hw | ⟨x, y, z, hw⟩
  · have hl : (((wordsB s).length : Int) == 3) = false := by simp; omega
    clear hno hw
    generalize wordsB s = l at *
    generalize l.length = n at *
    go_enter Tryd.func25, Tryd.ntmps25
    go_wp2_with (first | (go_at_call 51; (with_reducible apply Calls.mono (HSP _ (Own.immOf (φ := LibOk) hO (by repeat (first | with_reducible exact Pick.here _ _ | with_reducible apply Pick.there)))); rintro e8 w8 ⟨rfl, rfl⟩; dsimp only)) | ((first | with_reducible refine wpList_alloc_own hO ?_ | with_reducible refine wpList_drew_own hO ?_ | with_reducible refine wp_alloc_own hO ?_ | with_reducible refine wp_drew_own hO ?_ | with_reducible refine bodyPost_alloc_own hO ?_ | with_reducible refine bodyPost_drew_own hO ?_ | ((first | with_reducible apply wpList_set_own | with_reducible apply wp_set_own | with_reducible apply bodyPost_set_own); (focus (first | (with_reducible apply Own.set; (focus (with_reducible apply hO)); (repeat (first | with_reducible exact Put.here _ _ _ | with_reducible apply Put.there)); done) | (with_reducible apply Own.setRow; (focus (with_reducible apply hO)); (focus (repeat (first | with_reducible exact Put.here _ _ _ | with_reducible apply Put.there))); first | assumption | (simp; omega) | (simp; assumption)) | ((repeat' (first | with_reducible apply hO | with_reducible apply Own.set)); all_goals (repeat (first | with_reducible exact Put.here _ _ _ | with_reducible apply Put.there)); done))))); clear hO; intro w9 hO; (try dsimp only [List.set] at hO); ((try clear hf); have hf := hO.facts; (try simp only [FX, Nat.zero_add, Nat.reduceAdd, and_true, true_and, List.map_cons, List.map_nil, List.cons_append, List.nil_append] at hf))))
    refine bodyPost_run rfl fun K hK => ?_; simp [results, Tryd.results25, go_sem, hf]; exact hK _ ⟨rfl, hO.toExt⟩
  · obtain ⟨he, _, _, _⟩ := wordsB_three s x y z hw
    obtain ⟨sx, sy, sz⟩ := three_sizes s x y z he
    rw [hw] at HSP
    dsimp only [List.length_cons, List.length_nil, List.map_cons, List.map_nil] at HSP
    by_cases hX : ∃ n, NumOk x 999999 n
    · obtain ⟨a, ha⟩ := hX
      have HA1 := fun w h => number_yes x 999999 a w h (by omega) ha (by omega)
      by_cases hY : ∃ n, NumOk y 9 n
      · obtain ⟨b, hb⟩ := hY
        have HA2 := fun w h => number_yes y 9 b w h (by omega) hb (by omega)
        by_cases hb1 : 1 ≤ b
        · have hz : ¬ (z.size = 0 ∨ NameOk z) := fun hz => hno ⟨a, b, z, by rw [he, ha.2, hb.2]; rfl, ha.1, hb1, hb.1, hz⟩
          have hdl : z.toList.length = z.size := by rw [ByteArray.toList_eq]; rfl
          have hz1 : ¬ z.toList = [] := fun e => hz (.inl (by rw [← hdl, e]; rfl))
          have HN1 := fun w => name_any z w (by omega)
          rw [decide_eq_false (fun h => hz (.inr h))] at HN1
          clear hno hz he
          go_enter Tryd.func25, Tryd.ntmps25
          go_wp2_with (first | (go_at_call 51; (with_reducible apply Calls.mono (HSP _ (Own.immOf (φ := LibOk) hO (by repeat (first | with_reducible exact Pick.here _ _ | with_reducible apply Pick.there)))); rintro e8 w8 ⟨rfl, rfl⟩; dsimp only)) | (go_at_call 52; (with_reducible apply Calls.mono (HA1 _ (Own.immOf (φ := LibOk) hO (by repeat (first | with_reducible exact Pick.here _ _ | with_reducible apply Pick.there)))); rintro e8 w8 ⟨rfl, hx8⟩; replace hO := hO.ext hx8; clear hx8; dsimp only; ((try clear hf); have hf := hO.facts; (try simp only [FX, Nat.zero_add, Nat.reduceAdd, and_true, true_and, List.map_cons, List.map_nil, List.cons_append, List.nil_append] at hf)))) | (go_at_call 52; (with_reducible apply Calls.mono (HA2 _ (Own.immOf (φ := LibOk) hO (by repeat (first | with_reducible exact Pick.here _ _ | with_reducible apply Pick.there)))); rintro e8 w8 ⟨rfl, hx8⟩; replace hO := hO.ext hx8; clear hx8; dsimp only; ((try clear hf); have hf := hO.facts; (try simp only [FX, Nat.zero_add, Nat.reduceAdd, and_true, true_and, List.map_cons, List.map_nil, List.cons_append, List.nil_append] at hf)))) | (go_at_call 13; (with_reducible apply Calls.mono (HN1 _); rintro e8 w8 ⟨rfl, rfl⟩; dsimp only)) | ((first | with_reducible refine wpList_alloc_own hO ?_ | with_reducible refine wpList_drew_own hO ?_ | with_reducible refine wp_alloc_own hO ?_ | with_reducible refine wp_drew_own hO ?_ | with_reducible refine bodyPost_alloc_own hO ?_ | with_reducible refine bodyPost_drew_own hO ?_ | ((first | with_reducible apply wpList_set_own | with_reducible apply wp_set_own | with_reducible apply bodyPost_set_own); (focus (first | (with_reducible apply Own.set; (focus (with_reducible apply hO)); (repeat (first | with_reducible exact Put.here _ _ _ | with_reducible apply Put.there)); done) | (with_reducible apply Own.setRow; (focus (with_reducible apply hO)); (focus (repeat (first | with_reducible exact Put.here _ _ _ | with_reducible apply Put.there))); first | assumption | (simp; omega) | (simp; assumption)) | ((repeat' (first | with_reducible apply hO | with_reducible apply Own.set)); all_goals (repeat (first | with_reducible exact Put.here _ _ _ | with_reducible apply Put.there)); done))))); clear hO; intro w9 hO; (try dsimp only [List.set] at hO); ((try clear hf); have hf := hO.facts; (try simp only [FX, Nat.zero_add, Nat.reduceAdd, and_true, true_and, List.map_cons, List.map_nil, List.cons_append, List.nil_append] at hf))))
          all_goals first | (refine bodyPost_run rfl fun K hK => ?_; simp [results, Tryd.results25, go_sem, hf]; exact hK _ ⟨rfl, hO.toExt⟩; done) | (exfalso; omega) | (exfalso; simp_all; done)
        · clear hno he
          go_enter Tryd.func25, Tryd.ntmps25
          go_wp2_with (first | (go_at_call 51; (with_reducible apply Calls.mono (HSP _ (Own.immOf (φ := LibOk) hO (by repeat (first | with_reducible exact Pick.here _ _ | with_reducible apply Pick.there)))); rintro e8 w8 ⟨rfl, rfl⟩; dsimp only)) | (go_at_call 52; (with_reducible apply Calls.mono (HA1 _ (Own.immOf (φ := LibOk) hO (by repeat (first | with_reducible exact Pick.here _ _ | with_reducible apply Pick.there)))); rintro e8 w8 ⟨rfl, hx8⟩; replace hO := hO.ext hx8; clear hx8; dsimp only; ((try clear hf); have hf := hO.facts; (try simp only [FX, Nat.zero_add, Nat.reduceAdd, and_true, true_and, List.map_cons, List.map_nil, List.cons_append, List.nil_append] at hf)))) | (go_at_call 52; (with_reducible apply Calls.mono (HA2 _ (Own.immOf (φ := LibOk) hO (by repeat (first | with_reducible exact Pick.here _ _ | with_reducible apply Pick.there)))); rintro e8 w8 ⟨rfl, hx8⟩; replace hO := hO.ext hx8; clear hx8; dsimp only; ((try clear hf); have hf := hO.facts; (try simp only [FX, Nat.zero_add, Nat.reduceAdd, and_true, true_and, List.map_cons, List.map_nil, List.cons_append, List.nil_append] at hf)))) | ((first | with_reducible refine wpList_alloc_own hO ?_ | with_reducible refine wpList_drew_own hO ?_ | with_reducible refine wp_alloc_own hO ?_ | with_reducible refine wp_drew_own hO ?_ | with_reducible refine bodyPost_alloc_own hO ?_ | with_reducible refine bodyPost_drew_own hO ?_ | ((first | with_reducible apply wpList_set_own | with_reducible apply wp_set_own | with_reducible apply bodyPost_set_own); (focus (first | (with_reducible apply Own.set; (focus (with_reducible apply hO)); (repeat (first | with_reducible exact Put.here _ _ _ | with_reducible apply Put.there)); done) | (with_reducible apply Own.setRow; (focus (with_reducible apply hO)); (focus (repeat (first | with_reducible exact Put.here _ _ _ | with_reducible apply Put.there))); first | assumption | (simp; omega) | (simp; assumption)) | ((repeat' (first | with_reducible apply hO | with_reducible apply Own.set)); all_goals (repeat (first | with_reducible exact Put.here _ _ _ | with_reducible apply Put.there)); done))))); clear hO; intro w9 hO; (try dsimp only [List.set] at hO); ((try clear hf); have hf := hO.facts; (try simp only [FX, Nat.zero_add, Nat.reduceAdd, and_true, true_and, List.map_cons, List.map_nil, List.cons_append, List.nil_append] at hf))))
          all_goals first | (refine bodyPost_run rfl fun K hK => ?_; simp [results, Tryd.results25, go_sem, hf]; exact hK _ ⟨rfl, hO.toExt⟩; done) | (exfalso; omega) | (exfalso; simp_all; done)
      · have HA2 := fun w h => number_no y 9 w h (by omega) (by omega) hY
        clear hno he
        go_enter Tryd.func25, Tryd.ntmps25
        go_wp2_with (first | (go_at_call 51; (with_reducible apply Calls.mono (HSP _ (Own.immOf (φ := LibOk) hO (by repeat (first | with_reducible exact Pick.here _ _ | with_reducible apply Pick.there)))); rintro e8 w8 ⟨rfl, rfl⟩; dsimp only)) | (go_at_call 52; (with_reducible apply Calls.mono (HA1 _ (Own.immOf (φ := LibOk) hO (by repeat (first | with_reducible exact Pick.here _ _ | with_reducible apply Pick.there)))); rintro e8 w8 ⟨rfl, hx8⟩; replace hO := hO.ext hx8; clear hx8; dsimp only; ((try clear hf); have hf := hO.facts; (try simp only [FX, Nat.zero_add, Nat.reduceAdd, and_true, true_and, List.map_cons, List.map_nil, List.cons_append, List.nil_append] at hf)))) | (go_at_call 52; (with_reducible apply Calls.mono (HA2 _ (Own.immOf (φ := LibOk) hO (by repeat (first | with_reducible exact Pick.here _ _ | with_reducible apply Pick.there)))); rintro e8 w8 ⟨⟨x8, rfl⟩, hx8⟩; replace hO := hO.ext hx8; clear hx8; dsimp only; ((try clear hf); have hf := hO.facts; (try simp only [FX, Nat.zero_add, Nat.reduceAdd, and_true, true_and, List.map_cons, List.map_nil, List.cons_append, List.nil_append] at hf)))) | ((first | with_reducible refine wpList_alloc_own hO ?_ | with_reducible refine wpList_drew_own hO ?_ | with_reducible refine wp_alloc_own hO ?_ | with_reducible refine wp_drew_own hO ?_ | with_reducible refine bodyPost_alloc_own hO ?_ | with_reducible refine bodyPost_drew_own hO ?_ | ((first | with_reducible apply wpList_set_own | with_reducible apply wp_set_own | with_reducible apply bodyPost_set_own); (focus (first | (with_reducible apply Own.set; (focus (with_reducible apply hO)); (repeat (first | with_reducible exact Put.here _ _ _ | with_reducible apply Put.there)); done) | (with_reducible apply Own.setRow; (focus (with_reducible apply hO)); (focus (repeat (first | with_reducible exact Put.here _ _ _ | with_reducible apply Put.there))); first | assumption | (simp; omega) | (simp; assumption)) | ((repeat' (first | with_reducible apply hO | with_reducible apply Own.set)); all_goals (repeat (first | with_reducible exact Put.here _ _ _ | with_reducible apply Put.there)); done))))); clear hO; intro w9 hO; (try dsimp only [List.set] at hO); ((try clear hf); have hf := hO.facts; (try simp only [FX, Nat.zero_add, Nat.reduceAdd, and_true, true_and, List.map_cons, List.map_nil, List.cons_append, List.nil_append] at hf))))
        all_goals first | (refine bodyPost_run rfl fun K hK => ?_; simp [results, Tryd.results25, go_sem, hf]; exact hK _ ⟨rfl, hO.toExt⟩; done) | (exfalso; omega) | (exfalso; simp_all; done)
    · have HA1 := fun w h => number_no x 999999 w h (by omega) (by omega) hX
      have HA2 := fun w h => number_some y 9 w h (by omega) (by omega) (by omega)
      clear hno he
      go_enter Tryd.func25, Tryd.ntmps25
      go_wp2_with (first | (go_at_call 51; (with_reducible apply Calls.mono (HSP _ (Own.immOf (φ := LibOk) hO (by repeat (first | with_reducible exact Pick.here _ _ | with_reducible apply Pick.there)))); rintro e8 w8 ⟨rfl, rfl⟩; dsimp only)) | (go_at_call 52; (with_reducible apply Calls.mono (HA1 _ (Own.immOf (φ := LibOk) hO (by repeat (first | with_reducible exact Pick.here _ _ | with_reducible apply Pick.there)))); rintro e8 w8 ⟨⟨x8, rfl⟩, hx8⟩; replace hO := hO.ext hx8; clear hx8; dsimp only; ((try clear hf); have hf := hO.facts; (try simp only [FX, Nat.zero_add, Nat.reduceAdd, and_true, true_and, List.map_cons, List.map_nil, List.cons_append, List.nil_append] at hf)))) | (go_at_call 52; (with_reducible apply Calls.mono (HA2 _ (Own.immOf (φ := LibOk) hO (by repeat (first | with_reducible exact Pick.here _ _ | with_reducible apply Pick.there)))); rintro e8 w8 ⟨⟨x8, b8, rfl⟩, hx8⟩; replace hO := hO.ext hx8; clear hx8; dsimp only; ((try clear hf); have hf := hO.facts; (try simp only [FX, Nat.zero_add, Nat.reduceAdd, and_true, true_and, List.map_cons, List.map_nil, List.cons_append, List.nil_append] at hf)))) | ((first | with_reducible refine wpList_alloc_own hO ?_ | with_reducible refine wpList_drew_own hO ?_ | with_reducible refine wp_alloc_own hO ?_ | with_reducible refine wp_drew_own hO ?_ | with_reducible refine bodyPost_alloc_own hO ?_ | with_reducible refine bodyPost_drew_own hO ?_ | ((first | with_reducible apply wpList_set_own | with_reducible apply wp_set_own | with_reducible apply bodyPost_set_own); (focus (first | (with_reducible apply Own.set; (focus (with_reducible apply hO)); (repeat (first | with_reducible exact Put.here _ _ _ | with_reducible apply Put.there)); done) | (with_reducible apply Own.setRow; (focus (with_reducible apply hO)); (focus (repeat (first | with_reducible exact Put.here _ _ _ | with_reducible apply Put.there))); first | assumption | (simp; omega) | (simp; assumption)) | ((repeat' (first | with_reducible apply hO | with_reducible apply Own.set)); all_goals (repeat (first | with_reducible exact Put.here _ _ _ | with_reducible apply Put.there)); done))))); clear hO; intro w9 hO; (try dsimp only [List.set] at hO); ((try clear hf); have hf := hO.facts; (try simp only [FX, Nat.zero_add, Nat.reduceAdd, and_true, true_and, List.map_cons, List.map_nil, List.cons_append, List.nil_append] at hf))))
      all_goals first | (refine bodyPost_run rfl fun K hK => ?_; simp [results, Tryd.results25, go_sem, hf]; exact hK _ ⟨rfl, hO.toExt⟩; done) | (exfalso; omega) | (exfalso; simp_all; done)
theorem split_or (s : ByteArray) : (Lib.splitB sp 0 2 s).length ≠ 3 ∨ ∃ x y z, Lib.splitB sp 0 2 s = [x, y, z] := by
  by_cases h : (Lib.splitB sp 0 2 s).length = 3
  · right
    match hw : Lib.splitB sp 0 2 s, h with
    | [x, y, z], _ => exact ⟨x, y, z, rfl⟩
  · exact .inl h
/-- What SplitN gives: at most three words. -/
theorem splitN_few (s : ByteArray) (w : World) (h : LibOk w) (hs : s.size ≤ 1000) (hl : (Lib.splitB sp 0 2 s).length ≠ 3) :
    Calls Tryd.prog 55 #[.string s, .string ⟨#[32]⟩, .int .i64 3] w fun e w' => ∃ (n c : Nat) (cs : Array Value), n ≠ 3 ∧ e = .returned (.slice (some ⟨w.heap.size, 0, none⟩) n c) ∧ w' = w.alloc (.cells cs 9) := by
  obtain ⟨m, hm⟩ := h.max
  have h1 := Tryd.strings_SplitN s sp 3 m w (by omega) hm (by decide) (by decide) (by decide)
  refine h1.mono fun e w' ⟨he, hw⟩ => ⟨_, _, _, ?_, he, hw⟩
  have hc : Lib.countB s sp < 2 := by
    rcases Nat.lt_or_ge (Lib.countB s sp) 2 with h | h
    · exact h
    · exact absurd (split_many s 2 h) hl
  intro h3
  rcases Nat.le_total (min 3 (s.size + 1) - 1) (Lib.countB s sp) with h4 | h4
  · rw [split_many s _ h4] at h3; omega
  · rw [split_all s _ h4, ← split_all s 2 (by omega)] at h3
    exact hl h3
set_option maxHeartbeats 4000000 in
set_option maxRecDepth 100000 in
theorem parseMessage_no (n : Int) (s : ByteArray) (w : World) (h : LibOk w) (hs : s.size ≤ 200) (hno : ¬ ∃ a b d, MRow s a b d) :
    Calls Tryd.prog 29 #[.int .i64 n, .string s] w fun e w' => e = .returned (.tuple #[.agg #[.int .i64 0, .int .i64 0, .int .i64 0, .string ⟨#[]⟩], .iface 23 (.int .i64 4)]) ∧ Ext w w' := by
  have hO := lib_base h
  rcases split_or s with hw | ⟨x, y, z, hw⟩
  · have HSP := fun w h => splitN_few s w h (by omega) hw
    clear hno hw
    go_enter Tryd.func29, Tryd.ntmps29
    go_wp2_with (first | (go_at_call 55; (with_reducible apply Calls.mono (HSP _ (Own.immOf (φ := LibOk) hO (by repeat (first | with_reducible exact Pick.here _ _ | with_reducible apply Pick.there)))); rintro e8 w8 ⟨n8, c8, cs8, hn8, rfl, rfl⟩; dsimp only)) | ((first | with_reducible refine wpList_alloc_own hO ?_ | with_reducible refine wpList_drew_own hO ?_ | with_reducible refine wp_alloc_own hO ?_ | with_reducible refine wp_drew_own hO ?_ | with_reducible refine bodyPost_alloc_own hO ?_ | with_reducible refine bodyPost_drew_own hO ?_ | ((first | with_reducible apply wpList_set_own | with_reducible apply wp_set_own | with_reducible apply bodyPost_set_own); (focus (first | (with_reducible apply Own.set; (focus (with_reducible apply hO)); (repeat (first | with_reducible exact Put.here _ _ _ | with_reducible apply Put.there)); done) | (with_reducible apply Own.setRow; (focus (with_reducible apply hO)); (focus (repeat (first | with_reducible exact Put.here _ _ _ | with_reducible apply Put.there))); first | assumption | (simp; omega) | (simp; assumption)) | ((repeat' (first | with_reducible apply hO | with_reducible apply Own.set)); all_goals (repeat (first | with_reducible exact Put.here _ _ _ | with_reducible apply Put.there)); done))))); clear hO; intro w9 hO; (try dsimp only [List.set] at hO); ((try clear hf); have hf := hO.facts; (try simp only [FX, Nat.zero_add, Nat.reduceAdd, and_true, true_and, List.map_cons, List.map_nil, List.cons_append, List.nil_append] at hf))))
    all_goals first | (refine bodyPost_run rfl fun K hK => ?_; simp [results, Tryd.results29, go_sem, hf]; exact hK _ ⟨rfl, hO.toExt⟩; done) | (exfalso; omega) | (exfalso; simp_all; done)
  · obtain ⟨he, hx, hy⟩ := split2_three s x y z hw
    obtain ⟨sx, sy, sz⟩ := three_sizes s x y z he
    have HSP := fun w h => splitN3 x y z hx hy w h (by rw [← he]; omega)
    rw [← he] at HSP
    by_cases hz : z.size ≤ 28
    · by_cases hX : ∃ n, NumOk x 9 n
      · obtain ⟨a, ha⟩ := hX
        have HA1 := fun w h => number_yes x 9 a w h (by omega) ha (by omega)
        have hY : ¬ ∃ n, NumOk y 2000000 n := fun ⟨b, hb⟩ => hno ⟨a, b, z, by rw [he, ha.2, hb.2]; rfl, ha.1, hb.1, hz⟩
        have HA2 := fun w h => number_no y 2000000 w h (by omega) (by omega) hY
        clear hno he
        go_enter Tryd.func29, Tryd.ntmps29
        go_wp2_with (first | (go_at_call 55; (with_reducible apply Calls.mono (HSP _ (Own.immOf (φ := LibOk) hO (by repeat (first | with_reducible exact Pick.here _ _ | with_reducible apply Pick.there)))); rintro e8 w8 ⟨rfl, rfl⟩; dsimp only)) | (go_at_call 52; (with_reducible apply Calls.mono (HA1 _ (Own.immOf (φ := LibOk) hO (by repeat (first | with_reducible exact Pick.here _ _ | with_reducible apply Pick.there)))); rintro e8 w8 ⟨rfl, hx8⟩; replace hO := hO.ext hx8; clear hx8; dsimp only; ((try clear hf); have hf := hO.facts; (try simp only [FX, Nat.zero_add, Nat.reduceAdd, and_true, true_and, List.map_cons, List.map_nil, List.cons_append, List.nil_append] at hf)))) | (go_at_call 52; (with_reducible apply Calls.mono (HA2 _ (Own.immOf (φ := LibOk) hO (by repeat (first | with_reducible exact Pick.here _ _ | with_reducible apply Pick.there)))); rintro e8 w8 ⟨⟨x8, rfl⟩, hx8⟩; replace hO := hO.ext hx8; clear hx8; dsimp only; ((try clear hf); have hf := hO.facts; (try simp only [FX, Nat.zero_add, Nat.reduceAdd, and_true, true_and, List.map_cons, List.map_nil, List.cons_append, List.nil_append] at hf)))) | ((first | with_reducible refine wpList_alloc_own hO ?_ | with_reducible refine wpList_drew_own hO ?_ | with_reducible refine wp_alloc_own hO ?_ | with_reducible refine wp_drew_own hO ?_ | with_reducible refine bodyPost_alloc_own hO ?_ | with_reducible refine bodyPost_drew_own hO ?_ | ((first | with_reducible apply wpList_set_own | with_reducible apply wp_set_own | with_reducible apply bodyPost_set_own); (focus (first | (with_reducible apply Own.set; (focus (with_reducible apply hO)); (repeat (first | with_reducible exact Put.here _ _ _ | with_reducible apply Put.there)); done) | (with_reducible apply Own.setRow; (focus (with_reducible apply hO)); (focus (repeat (first | with_reducible exact Put.here _ _ _ | with_reducible apply Put.there))); first | assumption | (simp; omega) | (simp; assumption)) | ((repeat' (first | with_reducible apply hO | with_reducible apply Own.set)); all_goals (repeat (first | with_reducible exact Put.here _ _ _ | with_reducible apply Put.there)); done))))); clear hO; intro w9 hO; (try dsimp only [List.set] at hO); ((try clear hf); have hf := hO.facts; (try simp only [FX, Nat.zero_add, Nat.reduceAdd, and_true, true_and, List.map_cons, List.map_nil, List.cons_append, List.nil_append] at hf))))
        all_goals first | (refine bodyPost_run rfl fun K hK => ?_; simp [results, Tryd.results29, go_sem, hf]; exact hK _ ⟨rfl, hO.toExt⟩; done) | (exfalso; omega) | (exfalso; simp_all; done)
      · have HA1 := fun w h => number_no x 9 w h (by omega) (by omega) hX
        have HA2 := fun w h => number_some y 2000000 w h (by omega) (by omega) (by omega)
        clear hno he
        go_enter Tryd.func29, Tryd.ntmps29
        go_wp2_with (first | (go_at_call 55; (with_reducible apply Calls.mono (HSP _ (Own.immOf (φ := LibOk) hO (by repeat (first | with_reducible exact Pick.here _ _ | with_reducible apply Pick.there)))); rintro e8 w8 ⟨rfl, rfl⟩; dsimp only)) | (go_at_call 52; (with_reducible apply Calls.mono (HA1 _ (Own.immOf (φ := LibOk) hO (by repeat (first | with_reducible exact Pick.here _ _ | with_reducible apply Pick.there)))); rintro e8 w8 ⟨⟨x8, rfl⟩, hx8⟩; replace hO := hO.ext hx8; clear hx8; dsimp only; ((try clear hf); have hf := hO.facts; (try simp only [FX, Nat.zero_add, Nat.reduceAdd, and_true, true_and, List.map_cons, List.map_nil, List.cons_append, List.nil_append] at hf)))) | (go_at_call 52; (with_reducible apply Calls.mono (HA2 _ (Own.immOf (φ := LibOk) hO (by repeat (first | with_reducible exact Pick.here _ _ | with_reducible apply Pick.there)))); rintro e8 w8 ⟨⟨x8, b8, rfl⟩, hx8⟩; replace hO := hO.ext hx8; clear hx8; dsimp only; ((try clear hf); have hf := hO.facts; (try simp only [FX, Nat.zero_add, Nat.reduceAdd, and_true, true_and, List.map_cons, List.map_nil, List.cons_append, List.nil_append] at hf)))) | ((first | with_reducible refine wpList_alloc_own hO ?_ | with_reducible refine wpList_drew_own hO ?_ | with_reducible refine wp_alloc_own hO ?_ | with_reducible refine wp_drew_own hO ?_ | with_reducible refine bodyPost_alloc_own hO ?_ | with_reducible refine bodyPost_drew_own hO ?_ | ((first | with_reducible apply wpList_set_own | with_reducible apply wp_set_own | with_reducible apply bodyPost_set_own); (focus (first | (with_reducible apply Own.set; (focus (with_reducible apply hO)); (repeat (first | with_reducible exact Put.here _ _ _ | with_reducible apply Put.there)); done) | (with_reducible apply Own.setRow; (focus (with_reducible apply hO)); (focus (repeat (first | with_reducible exact Put.here _ _ _ | with_reducible apply Put.there))); first | assumption | (simp; omega) | (simp; assumption)) | ((repeat' (first | with_reducible apply hO | with_reducible apply Own.set)); all_goals (repeat (first | with_reducible exact Put.here _ _ _ | with_reducible apply Put.there)); done))))); clear hO; intro w9 hO; (try dsimp only [List.set] at hO); ((try clear hf); have hf := hO.facts; (try simp only [FX, Nat.zero_add, Nat.reduceAdd, and_true, true_and, List.map_cons, List.map_nil, List.cons_append, List.nil_append] at hf))))
        all_goals first | (refine bodyPost_run rfl fun K hK => ?_; simp [results, Tryd.results29, go_sem, hf]; exact hK _ ⟨rfl, hO.toExt⟩; done) | (exfalso; omega) | (exfalso; simp_all; done)
    · clear hno he
      go_enter Tryd.func29, Tryd.ntmps29
      go_wp2_with (first | (go_at_call 55; (with_reducible apply Calls.mono (HSP _ (Own.immOf (φ := LibOk) hO (by repeat (first | with_reducible exact Pick.here _ _ | with_reducible apply Pick.there)))); rintro e8 w8 ⟨rfl, rfl⟩; dsimp only)) | ((first | with_reducible refine wpList_alloc_own hO ?_ | with_reducible refine wpList_drew_own hO ?_ | with_reducible refine wp_alloc_own hO ?_ | with_reducible refine wp_drew_own hO ?_ | with_reducible refine bodyPost_alloc_own hO ?_ | with_reducible refine bodyPost_drew_own hO ?_ | ((first | with_reducible apply wpList_set_own | with_reducible apply wp_set_own | with_reducible apply bodyPost_set_own); (focus (first | (with_reducible apply Own.set; (focus (with_reducible apply hO)); (repeat (first | with_reducible exact Put.here _ _ _ | with_reducible apply Put.there)); done) | (with_reducible apply Own.setRow; (focus (with_reducible apply hO)); (focus (repeat (first | with_reducible exact Put.here _ _ _ | with_reducible apply Put.there))); first | assumption | (simp; omega) | (simp; assumption)) | ((repeat' (first | with_reducible apply hO | with_reducible apply Own.set)); all_goals (repeat (first | with_reducible exact Put.here _ _ _ | with_reducible apply Put.there)); done))))); clear hO; intro w9 hO; (try dsimp only [List.set] at hO); ((try clear hf); have hf := hO.facts; (try simp only [FX, Nat.zero_add, Nat.reduceAdd, and_true, true_and, List.map_cons, List.map_nil, List.cons_append, List.nil_append] at hf))))
      all_goals first | (refine bodyPost_run rfl fun K hK => ?_; simp [results, Tryd.results29, go_sem, hf]; exact hK _ ⟨rfl, hO.toExt⟩; done) | (exfalso; omega) | (exfalso; simp_all; done)
end Go.Proofs.YtmjdgcgmlgbfjaaDoor
