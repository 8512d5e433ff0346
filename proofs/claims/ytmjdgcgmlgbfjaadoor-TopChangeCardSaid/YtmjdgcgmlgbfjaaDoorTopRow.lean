/- What stands in a queue's row, and a message's, is read as it was written: the law's code. -/
import Derived.Test.YtmjdgcgmlgbfjaaDoorRow5
set_option linter.unusedVariables false
set_option linter.unusedSimpArgs false
namespace Go.Proofs.YtmjdgcgmlgbfjaaDoor
open Go.RowKit
def QOk (a b : Int) (d : ByteArray) : Prop := ¬ (a < 0 ∨ 999999 < a ∨ b < 1 ∨ 9 < b) ∧ (d.size = 0 ∨ NameOk d)
def MOk (a b : Int) (d : ByteArray) : Prop := ¬ (a < 0 ∨ 9 < a ∨ b < 0 ∨ 2000000 < b ∨ 28 < d.size)
theorem queueText_err (a b : Int) (d : ByteArray) (h : ¬ QOk a b d) (hds : d.size ≤ 50) : ∃ n : Int, ∀ w, LibOk w →
    Calls Tryd.prog 23 #[.agg #[.int .i64 a, .int .i64 b, .string d]] w fun e w' => e = .returned (.tuple #[.string ⟨#[]⟩, .iface 23 (.int .i64 n)]) ∧ Ext w w' := by
  by_cases h1 : a < 0 ∨ 999999 < a ∨ b < 1 ∨ 9 < b
  · exact ⟨1, fun w hl => queueText_bound a b d w hl h1⟩
  · exact ⟨3, fun w hl => queueText_shape a b d w hl h1 (fun h2 => h ⟨h1, h2⟩) hds⟩
def s31 : ByteArray := rowS 3 1 ⟨#[]⟩
theorem s31_size : s31.size ≤ 40 := by
  have h1 := itoaB_size 0 3 (by omega)
  have h2 := itoaB_size 0 1 (by omega)
  have := rowS_size 3 1 ⟨#[]⟩
  have e : (⟨#[]⟩ : ByteArray).size = 0 := rfl
  unfold s31
  omega
theorem q31 (w : World) (h : LibOk w) : Calls Tryd.prog 23 #[.agg #[.int .i64 3, .int .i64 1, .string ⟨#[]⟩]] w fun e w' => e = .returned (.tuple #[.string s31, .nilIface]) ∧ Ext w w' :=
  queueText_ok 3 1 ⟨#[]⟩ w h (by omega) (by omega) (by omega) (.inl rfl) (by decide)
set_option maxHeartbeats 8000000 in
set_option maxRecDepth 100000 in
theorem topRow_any (a b : Int) (d : ByteArray) (n t u : Int) (body : ByteArray) (w : World) (h : LibOk w) :
    Calls Tryd.prog 7 #[.agg #[.int .i64 a, .int .i64 b, .string d], .agg #[.int .i64 n, .int .i64 t, .int .i64 u, .string body]] w fun e w' => e = .returned (.bool true) ∧ Ext w w' := by
  have hO := lib_base h
  have h31 := s31_size
  have Q31 := q31
  generalize s31 = x0 at *
  by_cases hlen : d.size ≤ 50 ∧ body.size ≤ 100
  · obtain ⟨hl1, hl2⟩ := hlen
    by_cases hM : MOk t u body
    · have hM' := hM
      unfold MOk at hM'
      obtain ⟨i, rfl⟩ := Int.eq_ofNat_of_zero_le (show 0 ≤ t by omega)
      obtain ⟨j, rfl⟩ := Int.eq_ofNat_of_zero_le (show 0 ≤ u by omega)
      have M1 := fun w h => messageText_ok n i j body w h (by omega) (by omega) (by omega)
      have M2 := fun w h => parseMessage_ok n i j body w h (by omega) (by omega) (by omega)
      have hms : (rowS i j body).size ≤ 40 := by
        have := rowS_size i j body
        have h1 := itoaB_size 0 i (by omega)
        have h2 := itoaB_size 6 j (by omega)
        omega
      generalize rowS i j body = y at *
      clear hM hM'
      by_cases hQ : QOk a b d
      · obtain ⟨hq1, hq2⟩ := hQ
        obtain ⟨k, rfl⟩ := Int.eq_ofNat_of_zero_le (show 0 ≤ a by omega)
        obtain ⟨m, rfl⟩ := Int.eq_ofNat_of_zero_le (show 0 ≤ b by omega)
        have Q1 := fun w h => queueText_ok k m d w h (by omega) (by omega) (by omega) hq2 hl1
        have Q2 := fun w h => parseQueue_ok k m d w h (by omega) (by omega) (by omega) hq2 hl1
        have hqs : (rowS k m d).size ≤ 40 := by
          have := rowS_size k m d
          have h1 := itoaB_size 5 k (by omega)
          have h2 := itoaB_size 0 m (by omega)
          rcases hq2 with h3 | h3
          · omega
          · have := h3.2.1; omega
        generalize rowS k m d = x at *
        clear hq1 hq2
        go_enter Tryd.func7, Tryd.ntmps7
        go_wp2_with (first | (go_at_call 23; (with_reducible apply Calls.mono (Q31 _ (Own.immOf (φ := LibOk) hO (by repeat (first | with_reducible exact Pick.here _ _ | with_reducible apply Pick.there)))); rintro e8 w8 ⟨rfl, hx8⟩; replace hO := hO.ext hx8; clear hx8; dsimp only; ((try clear hf); have hf := hO.facts; (try simp only [FX, Nat.zero_add, Nat.reduceAdd, and_true, true_and, List.map_cons, List.map_nil, List.cons_append, List.nil_append] at hf)))) | (go_at_call 23; (with_reducible apply Calls.mono (Q1 _ (Own.immOf (φ := LibOk) hO (by repeat (first | with_reducible exact Pick.here _ _ | with_reducible apply Pick.there)))); rintro e8 w8 ⟨rfl, hx8⟩; replace hO := hO.ext hx8; clear hx8; dsimp only; ((try clear hf); have hf := hO.facts; (try simp only [FX, Nat.zero_add, Nat.reduceAdd, and_true, true_and, List.map_cons, List.map_nil, List.cons_append, List.nil_append] at hf)))) | (go_at_call 25; (with_reducible apply Calls.mono (Q2 _ (Own.immOf (φ := LibOk) hO (by repeat (first | with_reducible exact Pick.here _ _ | with_reducible apply Pick.there)))); rintro e8 w8 ⟨rfl, hx8⟩; replace hO := hO.ext hx8; clear hx8; dsimp only; ((try clear hf); have hf := hO.facts; (try simp only [FX, Nat.zero_add, Nat.reduceAdd, and_true, true_and, List.map_cons, List.map_nil, List.cons_append, List.nil_append] at hf)))) | (go_at_call 27; (with_reducible apply Calls.mono (M1 _ (Own.immOf (φ := LibOk) hO (by repeat (first | with_reducible exact Pick.here _ _ | with_reducible apply Pick.there)))); rintro e8 w8 ⟨rfl, hx8⟩; replace hO := hO.ext hx8; clear hx8; dsimp only; ((try clear hf); have hf := hO.facts; (try simp only [FX, Nat.zero_add, Nat.reduceAdd, and_true, true_and, List.map_cons, List.map_nil, List.cons_append, List.nil_append] at hf)))) | (go_at_call 29; (with_reducible apply Calls.mono (M2 _ (Own.immOf (φ := LibOk) hO (by repeat (first | with_reducible exact Pick.here _ _ | with_reducible apply Pick.there)))); rintro e8 w8 ⟨rfl, hx8⟩; replace hO := hO.ext hx8; clear hx8; dsimp only; ((try clear hf); have hf := hO.facts; (try simp only [FX, Nat.zero_add, Nat.reduceAdd, and_true, true_and, List.map_cons, List.map_nil, List.cons_append, List.nil_append] at hf)))) | ((first | with_reducible refine wpList_alloc_own hO ?_ | with_reducible refine wpList_drew_own hO ?_ | with_reducible refine wp_alloc_own hO ?_ | with_reducible refine wp_drew_own hO ?_ | with_reducible refine bodyPost_alloc_own hO ?_ | with_reducible refine bodyPost_drew_own hO ?_ | ((first | with_reducible apply wpList_set_own | with_reducible apply wp_set_own | with_reducible apply bodyPost_set_own); (focus (first | (with_reducible apply Own.set; (focus (with_reducible apply hO)); (repeat (first | with_reducible exact Put.here _ _ _ | with_reducible apply Put.there)); done) | (with_reducible apply Own.setRow; (focus (with_reducible apply hO)); (focus (repeat (first | with_reducible exact Put.here _ _ _ | with_reducible apply Put.there))); first | assumption | (simp; omega) | (simp; assumption)) | ((repeat' (first | with_reducible apply hO | with_reducible apply Own.set)); all_goals (repeat (first | with_reducible exact Put.here _ _ _ | with_reducible apply Put.there)); done))))); clear hO; intro w9 hO; (try dsimp only [List.set] at hO); ((try clear hf); have hf := hO.facts; (try simp only [FX, Nat.zero_add, Nat.reduceAdd, and_true, true_and, List.map_cons, List.map_nil, List.cons_append, List.nil_append] at hf)))) -- M1
        all_goals first | (go_ret; refine ⟨?_, hO.toExt⟩; simp; omega) | (exfalso; omega) | (exfalso; simp_all; done)
      · obtain ⟨eq, Q1⟩ := queueText_err a b d hQ hl1
        clear hQ
        go_enter Tryd.func7, Tryd.ntmps7
        go_wp2_with (first | (go_at_call 23; (with_reducible apply Calls.mono (Q31 _ (Own.immOf (φ := LibOk) hO (by repeat (first | with_reducible exact Pick.here _ _ | with_reducible apply Pick.there)))); rintro e8 w8 ⟨rfl, hx8⟩; replace hO := hO.ext hx8; clear hx8; dsimp only; ((try clear hf); have hf := hO.facts; (try simp only [FX, Nat.zero_add, Nat.reduceAdd, and_true, true_and, List.map_cons, List.map_nil, List.cons_append, List.nil_append] at hf)))) | (go_at_call 23; (with_reducible apply Calls.mono (Q1 _ (Own.immOf (φ := LibOk) hO (by repeat (first | with_reducible exact Pick.here _ _ | with_reducible apply Pick.there)))); rintro e8 w8 ⟨rfl, hx8⟩; replace hO := hO.ext hx8; clear hx8; dsimp only; ((try clear hf); have hf := hO.facts; (try simp only [FX, Nat.zero_add, Nat.reduceAdd, and_true, true_and, List.map_cons, List.map_nil, List.cons_append, List.nil_append] at hf)))) | (go_at_call 27; (with_reducible apply Calls.mono (M1 _ (Own.immOf (φ := LibOk) hO (by repeat (first | with_reducible exact Pick.here _ _ | with_reducible apply Pick.there)))); rintro e8 w8 ⟨rfl, hx8⟩; replace hO := hO.ext hx8; clear hx8; dsimp only; ((try clear hf); have hf := hO.facts; (try simp only [FX, Nat.zero_add, Nat.reduceAdd, and_true, true_and, List.map_cons, List.map_nil, List.cons_append, List.nil_append] at hf)))) | (go_at_call 29; (with_reducible apply Calls.mono (M2 _ (Own.immOf (φ := LibOk) hO (by repeat (first | with_reducible exact Pick.here _ _ | with_reducible apply Pick.there)))); rintro e8 w8 ⟨rfl, hx8⟩; replace hO := hO.ext hx8; clear hx8; dsimp only; ((try clear hf); have hf := hO.facts; (try simp only [FX, Nat.zero_add, Nat.reduceAdd, and_true, true_and, List.map_cons, List.map_nil, List.cons_append, List.nil_append] at hf)))) | ((first | with_reducible refine wpList_alloc_own hO ?_ | with_reducible refine wpList_drew_own hO ?_ | with_reducible refine wp_alloc_own hO ?_ | with_reducible refine wp_drew_own hO ?_ | with_reducible refine bodyPost_alloc_own hO ?_ | with_reducible refine bodyPost_drew_own hO ?_ | ((first | with_reducible apply wpList_set_own | with_reducible apply wp_set_own | with_reducible apply bodyPost_set_own); (focus (first | (with_reducible apply Own.set; (focus (with_reducible apply hO)); (repeat (first | with_reducible exact Put.here _ _ _ | with_reducible apply Put.there)); done) | (with_reducible apply Own.setRow; (focus (with_reducible apply hO)); (focus (repeat (first | with_reducible exact Put.here _ _ _ | with_reducible apply Put.there))); first | assumption | (simp; omega) | (simp; assumption)) | ((repeat' (first | with_reducible apply hO | with_reducible apply Own.set)); all_goals (repeat (first | with_reducible exact Put.here _ _ _ | with_reducible apply Put.there)); done))))); clear hO; intro w9 hO; (try dsimp only [List.set] at hO); ((try clear hf); have hf := hO.facts; (try simp only [FX, Nat.zero_add, Nat.reduceAdd, and_true, true_and, List.map_cons, List.map_nil, List.cons_append, List.nil_append] at hf))))
        all_goals first | (go_ret; refine ⟨?_, hO.toExt⟩; simp; omega) | (exfalso; omega) | (exfalso; simp_all; done)
    · have M1 := fun w h => messageText_bound n t u body w h (by unfold MOk at hM; omega)
      clear hM
      by_cases hQ : QOk a b d
      · obtain ⟨hq1, hq2⟩ := hQ
        obtain ⟨k, rfl⟩ := Int.eq_ofNat_of_zero_le (show 0 ≤ a by omega)
        obtain ⟨m, rfl⟩ := Int.eq_ofNat_of_zero_le (show 0 ≤ b by omega)
        have Q1 := fun w h => queueText_ok k m d w h (by omega) (by omega) (by omega) hq2 hl1
        have Q2 := fun w h => parseQueue_ok k m d w h (by omega) (by omega) (by omega) hq2 hl1
        have hqs : (rowS k m d).size ≤ 40 := by
          have := rowS_size k m d
          have h1 := itoaB_size 5 k (by omega)
          have h2 := itoaB_size 0 m (by omega)
          rcases hq2 with h3 | h3
          · omega
          · have := h3.2.1; omega
        generalize rowS k m d = x at *
        clear hq1 hq2
        go_enter Tryd.func7, Tryd.ntmps7
        go_wp2_with (first | (go_at_call 23; (with_reducible apply Calls.mono (Q31 _ (Own.immOf (φ := LibOk) hO (by repeat (first | with_reducible exact Pick.here _ _ | with_reducible apply Pick.there)))); rintro e8 w8 ⟨rfl, hx8⟩; replace hO := hO.ext hx8; clear hx8; dsimp only; ((try clear hf); have hf := hO.facts; (try simp only [FX, Nat.zero_add, Nat.reduceAdd, and_true, true_and, List.map_cons, List.map_nil, List.cons_append, List.nil_append] at hf)))) | (go_at_call 23; (with_reducible apply Calls.mono (Q1 _ (Own.immOf (φ := LibOk) hO (by repeat (first | with_reducible exact Pick.here _ _ | with_reducible apply Pick.there)))); rintro e8 w8 ⟨rfl, hx8⟩; replace hO := hO.ext hx8; clear hx8; dsimp only; ((try clear hf); have hf := hO.facts; (try simp only [FX, Nat.zero_add, Nat.reduceAdd, and_true, true_and, List.map_cons, List.map_nil, List.cons_append, List.nil_append] at hf)))) | (go_at_call 25; (with_reducible apply Calls.mono (Q2 _ (Own.immOf (φ := LibOk) hO (by repeat (first | with_reducible exact Pick.here _ _ | with_reducible apply Pick.there)))); rintro e8 w8 ⟨rfl, hx8⟩; replace hO := hO.ext hx8; clear hx8; dsimp only; ((try clear hf); have hf := hO.facts; (try simp only [FX, Nat.zero_add, Nat.reduceAdd, and_true, true_and, List.map_cons, List.map_nil, List.cons_append, List.nil_append] at hf)))) | (go_at_call 27; (with_reducible apply Calls.mono (M1 _ (Own.immOf (φ := LibOk) hO (by repeat (first | with_reducible exact Pick.here _ _ | with_reducible apply Pick.there)))); rintro e8 w8 ⟨rfl, hx8⟩; replace hO := hO.ext hx8; clear hx8; dsimp only; ((try clear hf); have hf := hO.facts; (try simp only [FX, Nat.zero_add, Nat.reduceAdd, and_true, true_and, List.map_cons, List.map_nil, List.cons_append, List.nil_append] at hf)))) | ((first | with_reducible refine wpList_alloc_own hO ?_ | with_reducible refine wpList_drew_own hO ?_ | with_reducible refine wp_alloc_own hO ?_ | with_reducible refine wp_drew_own hO ?_ | with_reducible refine bodyPost_alloc_own hO ?_ | with_reducible refine bodyPost_drew_own hO ?_ | ((first | with_reducible apply wpList_set_own | with_reducible apply wp_set_own | with_reducible apply bodyPost_set_own); (focus (first | (with_reducible apply Own.set; (focus (with_reducible apply hO)); (repeat (first | with_reducible exact Put.here _ _ _ | with_reducible apply Put.there)); done) | (with_reducible apply Own.setRow; (focus (with_reducible apply hO)); (focus (repeat (first | with_reducible exact Put.here _ _ _ | with_reducible apply Put.there))); first | assumption | (simp; omega) | (simp; assumption)) | ((repeat' (first | with_reducible apply hO | with_reducible apply Own.set)); all_goals (repeat (first | with_reducible exact Put.here _ _ _ | with_reducible apply Put.there)); done))))); clear hO; intro w9 hO; (try dsimp only [List.set] at hO); ((try clear hf); have hf := hO.facts; (try simp only [FX, Nat.zero_add, Nat.reduceAdd, and_true, true_and, List.map_cons, List.map_nil, List.cons_append, List.nil_append] at hf))))
        all_goals first | (go_ret; exact ⟨rfl, hO.toExt⟩) | (exfalso; omega) | (exfalso; simp_all; done)
      · obtain ⟨eq, Q1⟩ := queueText_err a b d hQ hl1
        clear hQ
        go_enter Tryd.func7, Tryd.ntmps7
        go_wp2_with (first | (go_at_call 23; (with_reducible apply Calls.mono (Q31 _ (Own.immOf (φ := LibOk) hO (by repeat (first | with_reducible exact Pick.here _ _ | with_reducible apply Pick.there)))); rintro e8 w8 ⟨rfl, hx8⟩; replace hO := hO.ext hx8; clear hx8; dsimp only; ((try clear hf); have hf := hO.facts; (try simp only [FX, Nat.zero_add, Nat.reduceAdd, and_true, true_and, List.map_cons, List.map_nil, List.cons_append, List.nil_append] at hf)))) | (go_at_call 23; (with_reducible apply Calls.mono (Q1 _ (Own.immOf (φ := LibOk) hO (by repeat (first | with_reducible exact Pick.here _ _ | with_reducible apply Pick.there)))); rintro e8 w8 ⟨rfl, hx8⟩; replace hO := hO.ext hx8; clear hx8; dsimp only; ((try clear hf); have hf := hO.facts; (try simp only [FX, Nat.zero_add, Nat.reduceAdd, and_true, true_and, List.map_cons, List.map_nil, List.cons_append, List.nil_append] at hf)))) | (go_at_call 27; (with_reducible apply Calls.mono (M1 _ (Own.immOf (φ := LibOk) hO (by repeat (first | with_reducible exact Pick.here _ _ | with_reducible apply Pick.there)))); rintro e8 w8 ⟨rfl, hx8⟩; replace hO := hO.ext hx8; clear hx8; dsimp only; ((try clear hf); have hf := hO.facts; (try simp only [FX, Nat.zero_add, Nat.reduceAdd, and_true, true_and, List.map_cons, List.map_nil, List.cons_append, List.nil_append] at hf)))) | ((first | with_reducible refine wpList_alloc_own hO ?_ | with_reducible refine wpList_drew_own hO ?_ | with_reducible refine wp_alloc_own hO ?_ | with_reducible refine wp_drew_own hO ?_ | with_reducible refine bodyPost_alloc_own hO ?_ | with_reducible refine bodyPost_drew_own hO ?_ | ((first | with_reducible apply wpList_set_own | with_reducible apply wp_set_own | with_reducible apply bodyPost_set_own); (focus (first | (with_reducible apply Own.set; (focus (with_reducible apply hO)); (repeat (first | with_reducible exact Put.here _ _ _ | with_reducible apply Put.there)); done) | (with_reducible apply Own.setRow; (focus (with_reducible apply hO)); (focus (repeat (first | with_reducible exact Put.here _ _ _ | with_reducible apply Put.there))); first | assumption | (simp; omega) | (simp; assumption)) | ((repeat' (first | with_reducible apply hO | with_reducible apply Own.set)); all_goals (repeat (first | with_reducible exact Put.here _ _ _ | with_reducible apply Put.there)); done))))); clear hO; intro w9 hO; (try dsimp only [List.set] at hO); ((try clear hf); have hf := hO.facts; (try simp only [FX, Nat.zero_add, Nat.reduceAdd, and_true, true_and, List.map_cons, List.map_nil, List.cons_append, List.nil_append] at hf))))
        all_goals first | (go_ret; exact ⟨rfl, hO.toExt⟩) | (exfalso; omega) | (exfalso; simp_all; done)
  · have hlen' : 50 < d.size ∨ 100 < body.size := by omega
    clear hlen
    go_enter Tryd.func7, Tryd.ntmps7
    go_wp2_with (first | (go_at_call 23; (with_reducible apply Calls.mono (Q31 _ (Own.immOf (φ := LibOk) hO (by repeat (first | with_reducible exact Pick.here _ _ | with_reducible apply Pick.there)))); rintro e8 w8 ⟨rfl, hx8⟩; replace hO := hO.ext hx8; clear hx8; dsimp only; ((try clear hf); have hf := hO.facts; (try simp only [FX, Nat.zero_add, Nat.reduceAdd, and_true, true_and, List.map_cons, List.map_nil, List.cons_append, List.nil_append] at hf)))) | ((first | with_reducible refine wpList_alloc_own hO ?_ | with_reducible refine wpList_drew_own hO ?_ | with_reducible refine wp_alloc_own hO ?_ | with_reducible refine wp_drew_own hO ?_ | with_reducible refine bodyPost_alloc_own hO ?_ | with_reducible refine bodyPost_drew_own hO ?_ | ((first | with_reducible apply wpList_set_own | with_reducible apply wp_set_own | with_reducible apply bodyPost_set_own); (focus (first | (with_reducible apply Own.set; (focus (with_reducible apply hO)); (repeat (first | with_reducible exact Put.here _ _ _ | with_reducible apply Put.there)); done) | (with_reducible apply Own.setRow; (focus (with_reducible apply hO)); (focus (repeat (first | with_reducible exact Put.here _ _ _ | with_reducible apply Put.there))); first | assumption | (simp; omega) | (simp; assumption)) | ((repeat' (first | with_reducible apply hO | with_reducible apply Own.set)); all_goals (repeat (first | with_reducible exact Put.here _ _ _ | with_reducible apply Put.there)); done))))); clear hO; intro w9 hO; (try dsimp only [List.set] at hO); ((try clear hf); have hf := hO.facts; (try simp only [FX, Nat.zero_add, Nat.reduceAdd, and_true, true_and, List.map_cons, List.map_nil, List.cons_append, List.nil_append] at hf))))
    all_goals first | (go_ret; exact ⟨rfl, hO.toExt⟩) | (exfalso; omega) | (exfalso; simp_all; done)
end Go.Proofs.YtmjdgcgmlgbfjaaDoor
