/- Package row: a queue's row, and a message's, read. -/
import Derived.Test.YtmjdgcgmlgbfjaaDoorRow4
set_option linter.unusedVariables false
set_option linter.unusedSimpArgs false
namespace Go.Proofs.YtmjdgcgmlgbfjaaDoor
open Go.RowKit
theorem split3 (x y z : ByteArray) (hx : (32 : UInt8) ∉ x.data.toList) (hy : (32 : UInt8) ∉ y.data.toList) (hz : (32 : UInt8) ∉ z.data.toList) (w : World) (h : LibOk w) (hs : (x ++ sp ++ (y ++ sp ++ z)).size ≤ 1000) :
    Calls Tryd.prog 51 #[.string (x ++ sp ++ (y ++ sp ++ z)), .string ⟨#[32]⟩] w fun e w' => e = .returned (.slice (some ⟨w.heap.size, 0, none⟩) 3 3) ∧ w' = w.alloc (.cells [Value.string x, .string y, .string z].toArray 9) := by
  obtain ⟨m, hm⟩ := h.max
  have hc : Lib.countB (x ++ sp ++ (y ++ sp ++ z)) sp = 2 := by
    rw [count_hit' _ _ hx, count_hit' _ _ hy, Lib.countB_miss _ _ (indexB_miss z hz)]
  have h1 := Tryd.strings_Split (x ++ sp ++ (y ++ sp ++ z)) sp m w (by omega) hm (by decide)
  rw [hc, split_hit _ _ _ hx, split_hit _ _ _ hy] at h1
  exact h1
theorem splitN3 (x y z : ByteArray) (hx : (32 : UInt8) ∉ x.data.toList) (hy : (32 : UInt8) ∉ y.data.toList) (w : World) (h : LibOk w) (hs : (x ++ sp ++ (y ++ sp ++ z)).size ≤ 1000) :
    Calls Tryd.prog 55 #[.string (x ++ sp ++ (y ++ sp ++ z)), .string ⟨#[32]⟩, .int .i64 3] w fun e w' => e = .returned (.slice (some ⟨w.heap.size, 0, none⟩) 3 3) ∧ w' = w.alloc (.cells [Value.string x, .string y, .string z].toArray 9) := by
  obtain ⟨m, hm⟩ := h.max
  have h1 := Tryd.strings_SplitN (x ++ sp ++ (y ++ sp ++ z)) sp 3 m w (by omega) hm (by decide) (by decide) (by decide)
  have hsz : (x ++ sp ++ (y ++ sp ++ z)).size = x.size + 1 + (y.size + 1 + z.size) := by
    rw [ByteArray.size_append, ByteArray.size_append, ByteArray.size_append, ByteArray.size_append]; rfl
  rw [show min 3 ((x ++ sp ++ (y ++ sp ++ z)).size + 1) = 3 from by rw [hsz]; omega, show 3 - 1 = 1 + 1 from rfl, split_hit _ _ _ hx, split_hit _ _ _ hy, Lib.splitB_zero] at h1
  exact h1
set_option maxHeartbeats 2000000 in
set_option maxRecDepth 100000 in
theorem parseQueue_ok (a b : Nat) (d : ByteArray) (w : World) (h : LibOk w) (ha : a ≤ 999999) (hb1 : 1 ≤ b) (hb2 : b ≤ 9) (hd : d.size = 0 ∨ NameOk d) (hds : d.size ≤ 50) :
    Calls Tryd.prog 25 #[.string (rowS a b d)] w fun e w' => e = .returned (.tuple #[.agg #[.int .i64 a, .int .i64 b, .string d], .nilIface]) ∧ Ext w w' := by
  have hO := lib_base h
  have hs1 := itoaB_size 6 a (by omega)
  have hs2 := itoaB_size 6 b (by omega)
  have hsz := rowS_size a b d
  have hnz : (32 : UInt8) ∉ d.data.toList := by
    rcases hd with hd | hd
    · intro hm
      have : d.data.toList.length = 0 := by simpa using hd
      rw [List.length_eq_zero_iff.1 this] at hm
      cases hm
    · exact name_nosp hd
  have HSP := fun w h => split3 (itoaB a) (itoaB b) d (itoaB_nosp a) (itoaB_nosp b) hnz w h (by show (rowS a b d).size ≤ 1000; omega)
  have HA1 := fun w h => number_ok a 999999 w h (by omega) (by omega)
  have HA2 := fun w h => number_ok b 9 w h (by omega) (by omega)
  change ∀ w, LibOk w → Calls Tryd.prog 51 #[.string (rowS a b d), .string ⟨#[32]⟩] w _ at HSP
  generalize rowS a b d = fin at *
  generalize itoaB (a : Int) = s1 at *
  generalize itoaB (b : Int) = s2 at *
  have hdl : d.toList.length = d.size := by rw [ByteArray.toList_eq]; rfl
  by_cases hd0 : d.size = 0
  · have hd1 : d.toList = [] := List.length_eq_zero_iff.1 (by omega)
    go_enter Tryd.func25, Tryd.ntmps25
    go_wp2_with (first | (go_at_call 51; (with_reducible apply Calls.mono (HSP _ (Own.immOf (φ := LibOk) hO (by repeat (first | with_reducible exact Pick.here _ _ | with_reducible apply Pick.there)))); rintro e8 w8 ⟨rfl, rfl⟩; dsimp only)) | (go_at_call 52; (with_reducible apply Calls.mono (HA1 _ (Own.immOf (φ := LibOk) hO (by repeat (first | with_reducible exact Pick.here _ _ | with_reducible apply Pick.there)))); rintro e8 w8 ⟨rfl, hx8⟩; replace hO := hO.ext hx8; clear hx8; dsimp only; ((try clear hf); have hf := hO.facts; (try simp only [FX, Nat.zero_add, Nat.reduceAdd, and_true, true_and, List.map_cons, List.map_nil, List.cons_append, List.nil_append] at hf)))) | (go_at_call 52; (with_reducible apply Calls.mono (HA2 _ (Own.immOf (φ := LibOk) hO (by repeat (first | with_reducible exact Pick.here _ _ | with_reducible apply Pick.there)))); rintro e8 w8 ⟨rfl, hx8⟩; replace hO := hO.ext hx8; clear hx8; dsimp only; ((try clear hf); have hf := hO.facts; (try simp only [FX, Nat.zero_add, Nat.reduceAdd, and_true, true_and, List.map_cons, List.map_nil, List.cons_append, List.nil_append] at hf)))) | ((first | with_reducible refine wpList_alloc_own hO ?_ | with_reducible refine wpList_drew_own hO ?_ | with_reducible refine wp_alloc_own hO ?_ | with_reducible refine wp_drew_own hO ?_ | with_reducible refine bodyPost_alloc_own hO ?_ | with_reducible refine bodyPost_drew_own hO ?_ | ((first | with_reducible apply wpList_set_own | with_reducible apply wp_set_own | with_reducible apply bodyPost_set_own); (focus (first | (with_reducible apply Own.set; (focus (with_reducible apply hO)); (repeat (first | with_reducible exact Put.here _ _ _ | with_reducible apply Put.there)); done) | (with_reducible apply Own.setRow; (focus (with_reducible apply hO)); (focus (repeat (first | with_reducible exact Put.here _ _ _ | with_reducible apply Put.there))); first | assumption | (simp; omega) | (simp; assumption)) | ((repeat' (first | with_reducible apply hO | with_reducible apply Own.set)); all_goals (repeat (first | with_reducible exact Put.here _ _ _ | with_reducible apply Put.there)); done))))); clear hO; intro w9 hO; (try dsimp only [List.set] at hO); ((try clear hf); have hf := hO.facts; (try simp only [FX, Nat.zero_add, Nat.reduceAdd, and_true, true_and, List.map_cons, List.map_nil, List.cons_append, List.nil_append] at hf)))) -- M1
    refine bodyPost_run rfl fun K hK => ?_; simp [results, Tryd.results25, go_sem, hf]; exact hK _ ⟨rfl, hO.toExt⟩
  · have hd1 : ¬ d.toList = [] := fun e => hd0 (by rw [← hdl, e]; rfl)
    have HN1 := fun w => name_any d w (by omega)
    rw [decide_eq_true (hd.resolve_left hd0)] at HN1
    go_enter Tryd.func25, Tryd.ntmps25
    go_wp2_with (first | (go_at_call 51; (with_reducible apply Calls.mono (HSP _ (Own.immOf (φ := LibOk) hO (by repeat (first | with_reducible exact Pick.here _ _ | with_reducible apply Pick.there)))); rintro e8 w8 ⟨rfl, rfl⟩; dsimp only)) | (go_at_call 52; (with_reducible apply Calls.mono (HA1 _ (Own.immOf (φ := LibOk) hO (by repeat (first | with_reducible exact Pick.here _ _ | with_reducible apply Pick.there)))); rintro e8 w8 ⟨rfl, hx8⟩; replace hO := hO.ext hx8; clear hx8; dsimp only; ((try clear hf); have hf := hO.facts; (try simp only [FX, Nat.zero_add, Nat.reduceAdd, and_true, true_and, List.map_cons, List.map_nil, List.cons_append, List.nil_append] at hf)))) | (go_at_call 52; (with_reducible apply Calls.mono (HA2 _ (Own.immOf (φ := LibOk) hO (by repeat (first | with_reducible exact Pick.here _ _ | with_reducible apply Pick.there)))); rintro e8 w8 ⟨rfl, hx8⟩; replace hO := hO.ext hx8; clear hx8; dsimp only; ((try clear hf); have hf := hO.facts; (try simp only [FX, Nat.zero_add, Nat.reduceAdd, and_true, true_and, List.map_cons, List.map_nil, List.cons_append, List.nil_append] at hf)))) | (go_at_call 13; (with_reducible apply Calls.mono (HN1 _); rintro e8 w8 ⟨rfl, rfl⟩; dsimp only)) | ((first | with_reducible refine wpList_alloc_own hO ?_ | with_reducible refine wpList_drew_own hO ?_ | with_reducible refine wp_alloc_own hO ?_ | with_reducible refine wp_drew_own hO ?_ | with_reducible refine bodyPost_alloc_own hO ?_ | with_reducible refine bodyPost_drew_own hO ?_ | ((first | with_reducible apply wpList_set_own | with_reducible apply wp_set_own | with_reducible apply bodyPost_set_own); (focus (first | (with_reducible apply Own.set; (focus (with_reducible apply hO)); (repeat (first | with_reducible exact Put.here _ _ _ | with_reducible apply Put.there)); done) | (with_reducible apply Own.setRow; (focus (with_reducible apply hO)); (focus (repeat (first | with_reducible exact Put.here _ _ _ | with_reducible apply Put.there))); first | assumption | (simp; omega) | (simp; assumption)) | ((repeat' (first | with_reducible apply hO | with_reducible apply Own.set)); all_goals (repeat (first | with_reducible exact Put.here _ _ _ | with_reducible apply Put.there)); done))))); clear hO; intro w9 hO; (try dsimp only [List.set] at hO); ((try clear hf); have hf := hO.facts; (try simp only [FX, Nat.zero_add, Nat.reduceAdd, and_true, true_and, List.map_cons, List.map_nil, List.cons_append, List.nil_append] at hf))))
    all_goals first | (refine bodyPost_run rfl fun K hK => ?_; simp [results, Tryd.results25, go_sem, hf]; exact hK _ ⟨rfl, hO.toExt⟩; done) | (exfalso; simp_all; done)
set_option maxHeartbeats 2000000 in
set_option maxRecDepth 100000 in
theorem parseMessage_ok (n : Int) (a b : Nat) (d : ByteArray) (w : World) (h : LibOk w) (ha : a ≤ 9) (hb2 : b ≤ 2000000) (hds : d.size ≤ 28) :
    Calls Tryd.prog 29 #[.int .i64 n, .string (rowS a b d)] w fun e w' => e = .returned (.tuple #[.agg #[.int .i64 n, .int .i64 a, .int .i64 b, .string d], .nilIface]) ∧ Ext w w' := by
  have hO := lib_base h
  have hs1 := itoaB_size 6 a (by omega)
  have hs2 := itoaB_size 6 b (by omega)
  have hsz := rowS_size a b d
  have HSP := fun w h => splitN3 (itoaB a) (itoaB b) d (itoaB_nosp a) (itoaB_nosp b) w h (by show (rowS a b d).size ≤ 1000; omega)
  have HA1 := fun w h => number_ok a 9 w h (by omega) (by omega)
  have HA2 := fun w h => number_ok b 2000000 w h (by omega) (by omega)
  change ∀ w, LibOk w → Calls Tryd.prog 55 #[.string (rowS a b d), .string ⟨#[32]⟩, .int .i64 3] w _ at HSP
  generalize rowS a b d = fin at *
  generalize itoaB (a : Int) = s1 at *
  generalize itoaB (b : Int) = s2 at *
  go_enter Tryd.func29, Tryd.ntmps29
  go_wp2_with (first | (go_at_call 55; (with_reducible apply Calls.mono (HSP _ (Own.immOf (φ := LibOk) hO (by repeat (first | with_reducible exact Pick.here _ _ | with_reducible apply Pick.there)))); rintro e8 w8 ⟨rfl, rfl⟩; dsimp only)) | (go_at_call 52; (with_reducible apply Calls.mono (HA1 _ (Own.immOf (φ := LibOk) hO (by repeat (first | with_reducible exact Pick.here _ _ | with_reducible apply Pick.there)))); rintro e8 w8 ⟨rfl, hx8⟩; replace hO := hO.ext hx8; clear hx8; dsimp only; ((try clear hf); have hf := hO.facts; (try simp only [FX, Nat.zero_add, Nat.reduceAdd, and_true, true_and, List.map_cons, List.map_nil, List.cons_append, List.nil_append] at hf)))) | (go_at_call 52; (with_reducible apply Calls.mono (HA2 _ (Own.immOf (φ := LibOk) hO (by repeat (first | with_reducible exact Pick.here _ _ | with_reducible apply Pick.there)))); rintro e8 w8 ⟨rfl, hx8⟩; replace hO := hO.ext hx8; clear hx8; dsimp only; ((try clear hf); have hf := hO.facts; (try simp only [FX, Nat.zero_add, Nat.reduceAdd, and_true, true_and, List.map_cons, List.map_nil, List.cons_append, List.nil_append] at hf)))) | ((first | with_reducible refine wpList_alloc_own hO ?_ | with_reducible refine wpList_drew_own hO ?_ | with_reducible refine wp_alloc_own hO ?_ | with_reducible refine wp_drew_own hO ?_ | with_reducible refine bodyPost_alloc_own hO ?_ | with_reducible refine bodyPost_drew_own hO ?_ | ((first | with_reducible apply wpList_set_own | with_reducible apply wp_set_own | with_reducible apply bodyPost_set_own); (focus (first | (with_reducible apply Own.set; (focus (with_reducible apply hO)); (repeat (first | with_reducible exact Put.here _ _ _ | with_reducible apply Put.there)); done) | (with_reducible apply Own.setRow; (focus (with_reducible apply hO)); (focus (repeat (first | with_reducible exact Put.here _ _ _ | with_reducible apply Put.there))); first | assumption | (simp; omega) | (simp; assumption)) | ((repeat' (first | with_reducible apply hO | with_reducible apply Own.set)); all_goals (repeat (first | with_reducible exact Put.here _ _ _ | with_reducible apply Put.there)); done))))); clear hO; intro w9 hO; (try dsimp only [List.set] at hO); ((try clear hf); have hf := hO.facts; (try simp only [FX, Nat.zero_add, Nat.reduceAdd, and_true, true_and, List.map_cons, List.map_nil, List.cons_append, List.nil_append] at hf))))
  all_goals first | (refine bodyPost_run rfl fun K hK => ?_; simp [results, Tryd.results29, go_sem, hf]; exact hK _ ⟨rfl, hO.toExt⟩; done) | (exfalso; omega) | (exfalso; simp_all; done)
end Go.Proofs.YtmjdgcgmlgbfjaaDoor
