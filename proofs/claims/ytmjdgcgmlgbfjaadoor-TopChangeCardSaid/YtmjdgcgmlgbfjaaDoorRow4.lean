/- Package row: what stands in a queue's row and a message's. -/
import Derived.Test.YtmjdgcgmlgbfjaaDoorRow3
import Derived.WalkSpells
import Derived.WalkLawsBesides
set_option linter.unusedVariables false
set_option linter.unusedSimpArgs false
namespace Go.Proofs.YtmjdgcgmlgbfjaaDoor
open Go.RowKit
theorem LibOk.up {w w' : World} (h : LibOk w) (hb : ∀ b, b < w.heap.size → w'.heap[b]? = w.heap[b]?) : LibOk w' := by
  have up : ∀ {a v}, w.cell? a = some v → w'.cell? a = some v := fun {a v} hc => by
    have hl : a.block < w.heap.size := by
      unfold World.cell? at hc
      split at hc
      · rename_i he; exact (Array.getElem?_eq_some_iff.1 he).1
      · cases hc
    rw [World.cell?_of_block (w := w) (hb _ hl)]; exact hc
  exact ⟨h.max.imp fun _ h => up h, h.syn.imp fun _ h => h.imp fun _ h => up h, h.rng.imp fun _ h => h.imp fun _ h => up h, tab_up h.tab hb⟩
theorem lib_base {w : World} (h : LibOk w) : Own (fun _ => False) w w [.imm LibOk] := Own.base w _ fun w' hw' => h.up hw'
/-- What stands in a row: two numbers and a text. -/
def rowS (a b : Nat) (d : ByteArray) : ByteArray := itoaB a ++ sp ++ (itoaB b ++ sp ++ d)
theorem rowS_eq (a b : Nat) (d : ByteArray) : (((itoaB a ++ ⟨#[32]⟩) ++ itoaB b) ++ ⟨#[32]⟩) ++ d = rowS a b d := ba_ext (by
  unfold rowS
  rw [app_data, app_data, app_data, app_data, app_data, app_data, app_data, app_data]; simp only [List.append_assoc]; rfl)
theorem rowS_size (a b : Nat) (d : ByteArray) : (rowS a b d).size = (itoaB a).size + (itoaB b).size + 2 + d.size := by
  unfold rowS
  rw [ByteArray.size_append, ByteArray.size_append, ByteArray.size_append, ByteArray.size_append]
  show (itoaB a).size + 1 + ((itoaB b).size + 1 + d.size) = _
  omega
set_option maxHeartbeats 2000000 in
set_option maxRecDepth 100000 in
theorem queueText_ok (a b : Nat) (d : ByteArray) (w : World) (h : LibOk w) (ha : a ≤ 999999) (hb1 : 1 ≤ b) (hb2 : b ≤ 9) (hd : d.size = 0 ∨ NameOk d) (hds : d.size ≤ 50) :
    Calls Tryd.prog 23 #[.agg #[.int .i64 a, .int .i64 b, .string d]] w fun e w' => e = .returned (.tuple #[.string (rowS a b d), .nilIface]) ∧ Ext w w' := by
  have hO := lib_base h
  have hs1 := itoaB_size 6 a (by omega)
  have hs2 := itoaB_size 6 b (by omega)
  have HI1 := fun w (h : LibOk w) => itoa_any a w h (by omega) (by omega)
  have HI2 := fun w (h : LibOk w) => itoa_any b w h (by omega) (by omega)
  have hfin := rowS_eq a b d
  generalize rowS a b d = fin at *
  generalize itoaB (a : Int) = s1 at *
  generalize itoaB (b : Int) = s2 at *
  have HF := Lib.hid hfin
  clear hfin
  have hdl : d.toList.length = d.size := by rw [ByteArray.toList_eq]; rfl
  by_cases hd0 : d.size = 0
  · have hd1 : d.toList = [] := List.length_eq_zero_iff.1 (by omega)
    go_enter Tryd.func23, Tryd.ntmps23
    go_wp2_with (first | ((first | with_reducible refine wpList_alloc_own hO ?_ | with_reducible refine wpList_drew_own hO ?_ | with_reducible refine wp_alloc_own hO ?_ | with_reducible refine wp_drew_own hO ?_ | with_reducible refine bodyPost_alloc_own hO ?_ | with_reducible refine bodyPost_drew_own hO ?_ | ((first | with_reducible apply wpList_set_own | with_reducible apply wp_set_own | with_reducible apply bodyPost_set_own); (focus (first | (with_reducible apply Own.set; (focus (with_reducible apply hO)); (repeat (first | with_reducible exact Put.here _ _ _ | with_reducible apply Put.there)); done) | (with_reducible apply Own.setRow; (focus (with_reducible apply hO)); (focus (repeat (first | with_reducible exact Put.here _ _ _ | with_reducible apply Put.there))); first | assumption | (simp; omega) | (simp; assumption)) | ((repeat' (first | with_reducible apply hO | with_reducible apply Own.set)); all_goals (repeat (first | with_reducible exact Put.here _ _ _ | with_reducible apply Put.there)); done))))); clear hO; intro w9 hO; (try dsimp only [List.set] at hO); ((try clear hf); have hf := hO.facts; (try simp only [FX, Nat.zero_add, Nat.reduceAdd, and_true, true_and, List.map_cons, List.map_nil, List.cons_append, List.nil_append] at hf))))
    all_goals (try (exfalso; omega))
    (refine wp_region_run (fun _ => True) (fun _ _ _ _ => trivial) trivial ((0, 0) :: (1, 1) :: (3, 2) :: (0, 3) :: (0, 4) :: (1, 5) :: (3, 6) :: (0, 7) :: (0, 8) :: (0, 9) :: (1, 10) :: (0, 11) :: (0, 12) :: (0, 13) :: []) (by kernel_rfl) (by kernel_rfl) rfl (fun _ _ d _ _ h => by cases d <;> exact h) ?_; intro w9 hx9; replace hO := hO.ext hx9; clear hx9; ((try clear hf); have hf := hO.facts; (try simp only [FX, Nat.zero_add, Nat.reduceAdd, and_true, true_and, List.map_cons, List.map_nil, List.cons_append, List.nil_append] at hf)); (repeat (first | (apply inRun_p _ rfl rfl rfl; focus (intro w8 K8 hK8; (repeat (first | go_skip | go_guarded | go_step)); exact hK8)) | (apply inRun_l _ rfl rfl rfl; focus (intro w8 hx8 K8 hK8; have hO := hO.ext hx8; ((try clear hf); have hf := hO.facts; (try simp only [FX, Nat.zero_add, Nat.reduceAdd, and_true, true_and, List.map_cons, List.map_nil, List.cons_append, List.nil_append] at hf)); skip; (repeat (first | go_skip | go_guarded | go_step)); exact hK8)) | (apply inRun_q _ rfl; (focus (intro w8 hx8 K8 hK8; have hO := hO.ext hx8; ((try clear hf); have hf := hO.facts; (try simp only [FX, Nat.zero_add, Nat.reduceAdd, and_true, true_and, List.map_cons, List.map_nil, List.cons_append, List.nil_append] at hf)); (repeat (first | go_skip | go_guarded | go_step | (go_at_call 45; (with_reducible apply Calls.mono (HI1 _ (Own.immOf (φ := LibOk) hO (by repeat (first | with_reducible exact Pick.here _ _ | with_reducible apply Pick.there)))); rintro e7 w7 ⟨rfl, hx7⟩; dsimp only)) | (go_at_call 45; (with_reducible apply Calls.mono (HI2 _ (Own.immOf (φ := LibOk) hO (by repeat (first | with_reducible exact Pick.here _ _ | with_reducible apply Pick.there)))); rintro e7 w7 ⟨rfl, hx7⟩; dsimp only)))); (first | exact (by repeat (first | exact Ext.refl _ | assumption | refine Ext.of_drew ?_ | refine Ext.alloc ?_ _ | refine Ext.drew ?_ | refine Ext.trans ?_ (by assumption))) | exact hK8 _ (by repeat (first | exact Ext.refl _ | assumption | refine Ext.of_drew ?_ | refine Ext.alloc ?_ _ | refine Ext.drew ?_ | refine Ext.trans ?_ (by assumption)))))); (focus (exact rfl)); intro w8 hx8; replace hO := hO.ext hx8; clear hx8; ((try clear hf); have hf := hO.facts; (try simp only [FX, Nat.zero_add, Nat.reduceAdd, and_true, true_and, List.map_cons, List.map_nil, List.cons_append, List.nil_append] at hf)))))) -- M1
    refine inRun_nil ?_
    go_wp2_with fail
    go_ret2
    exact ⟨by rw [HF.out]; rfl, hO.toExt⟩
  · have hd1 : ¬ d.toList = [] := fun e => hd0 (by rw [← hdl, e]; rfl)
    have HN1 := fun w => name_any d w (by omega)
    rw [decide_eq_true (hd.resolve_left hd0)] at HN1
    go_enter Tryd.func23, Tryd.ntmps23
    go_wp2_with (first | (go_at_call 13; (with_reducible apply Calls.mono (HN1 _); rintro e8 w8 ⟨rfl, rfl⟩; dsimp only)) | ((first | with_reducible refine wpList_alloc_own hO ?_ | with_reducible refine wpList_drew_own hO ?_ | with_reducible refine wp_alloc_own hO ?_ | with_reducible refine wp_drew_own hO ?_ | with_reducible refine bodyPost_alloc_own hO ?_ | with_reducible refine bodyPost_drew_own hO ?_ | ((first | with_reducible apply wpList_set_own | with_reducible apply wp_set_own | with_reducible apply bodyPost_set_own); (focus (first | (with_reducible apply Own.set; (focus (with_reducible apply hO)); (repeat (first | with_reducible exact Put.here _ _ _ | with_reducible apply Put.there)); done) | (with_reducible apply Own.setRow; (focus (with_reducible apply hO)); (focus (repeat (first | with_reducible exact Put.here _ _ _ | with_reducible apply Put.there))); first | assumption | (simp; omega) | (simp; assumption)) | ((repeat' (first | with_reducible apply hO | with_reducible apply Own.set)); all_goals (repeat (first | with_reducible exact Put.here _ _ _ | with_reducible apply Put.there)); done))))); clear hO; intro w9 hO; (try dsimp only [List.set] at hO); ((try clear hf); have hf := hO.facts; (try simp only [FX, Nat.zero_add, Nat.reduceAdd, and_true, true_and, List.map_cons, List.map_nil, List.cons_append, List.nil_append] at hf))))
    all_goals (try (exfalso; omega))
    (refine wp_region_run (fun _ => True) (fun _ _ _ _ => trivial) trivial ((0, 0) :: (1, 1) :: (3, 2) :: (0, 3) :: (0, 4) :: (1, 5) :: (3, 6) :: (0, 7) :: (0, 8) :: (0, 9) :: (1, 10) :: (0, 11) :: (0, 12) :: (0, 13) :: []) (by kernel_rfl) (by kernel_rfl) rfl (fun _ _ d _ _ h => by cases d <;> exact h) ?_; intro w9 hx9; replace hO := hO.ext hx9; clear hx9; ((try clear hf); have hf := hO.facts; (try simp only [FX, Nat.zero_add, Nat.reduceAdd, and_true, true_and, List.map_cons, List.map_nil, List.cons_append, List.nil_append] at hf)); (repeat (first | (apply inRun_p _ rfl rfl rfl; focus (intro w8 K8 hK8; (repeat (first | go_skip | go_guarded | go_step)); exact hK8)) | (apply inRun_l _ rfl rfl rfl; focus (intro w8 hx8 K8 hK8; have hO := hO.ext hx8; ((try clear hf); have hf := hO.facts; (try simp only [FX, Nat.zero_add, Nat.reduceAdd, and_true, true_and, List.map_cons, List.map_nil, List.cons_append, List.nil_append] at hf)); skip; (repeat (first | go_skip | go_guarded | go_step)); exact hK8)) | (apply inRun_q _ rfl; (focus (intro w8 hx8 K8 hK8; have hO := hO.ext hx8; ((try clear hf); have hf := hO.facts; (try simp only [FX, Nat.zero_add, Nat.reduceAdd, and_true, true_and, List.map_cons, List.map_nil, List.cons_append, List.nil_append] at hf)); (repeat (first | go_skip | go_guarded | go_step | (go_at_call 45; (with_reducible apply Calls.mono (HI1 _ (Own.immOf (φ := LibOk) hO (by repeat (first | with_reducible exact Pick.here _ _ | with_reducible apply Pick.there)))); rintro e7 w7 ⟨rfl, hx7⟩; dsimp only)) | (go_at_call 45; (with_reducible apply Calls.mono (HI2 _ (Own.immOf (φ := LibOk) hO (by repeat (first | with_reducible exact Pick.here _ _ | with_reducible apply Pick.there)))); rintro e7 w7 ⟨rfl, hx7⟩; dsimp only)))); (first | exact (by repeat (first | exact Ext.refl _ | assumption | refine Ext.of_drew ?_ | refine Ext.alloc ?_ _ | refine Ext.drew ?_ | refine Ext.trans ?_ (by assumption))) | exact hK8 _ (by repeat (first | exact Ext.refl _ | assumption | refine Ext.of_drew ?_ | refine Ext.alloc ?_ _ | refine Ext.drew ?_ | refine Ext.trans ?_ (by assumption)))))); (focus (exact rfl)); intro w8 hx8; replace hO := hO.ext hx8; clear hx8; ((try clear hf); have hf := hO.facts; (try simp only [FX, Nat.zero_add, Nat.reduceAdd, and_true, true_and, List.map_cons, List.map_nil, List.cons_append, List.nil_append] at hf)))))) -- M1
    refine inRun_nil ?_
    go_wp2_with fail
    go_ret2
    exact ⟨by rw [HF.out]; rfl, hO.toExt⟩
set_option maxHeartbeats 2000000 in
set_option maxRecDepth 100000 in
theorem queueText_bound (a b : Int) (d : ByteArray) (w : World) (h : LibOk w) (hbad : a < 0 ∨ 999999 < a ∨ b < 1 ∨ 9 < b) :
    Calls Tryd.prog 23 #[.agg #[.int .i64 a, .int .i64 b, .string d]] w fun e w' => e = .returned (.tuple #[.string ⟨#[]⟩, .iface 23 (.int .i64 1)]) ∧ Ext w w' := by
  have hO := lib_base h
  go_enter Tryd.func23, Tryd.ntmps23
  go_wp2_with (first | ((first | with_reducible refine wpList_alloc_own hO ?_ | with_reducible refine wpList_drew_own hO ?_ | with_reducible refine wp_alloc_own hO ?_ | with_reducible refine wp_drew_own hO ?_ | with_reducible refine bodyPost_alloc_own hO ?_ | with_reducible refine bodyPost_drew_own hO ?_ | ((first | with_reducible apply wpList_set_own | with_reducible apply wp_set_own | with_reducible apply bodyPost_set_own); (focus (first | (with_reducible apply Own.set; (focus (with_reducible apply hO)); (repeat (first | with_reducible exact Put.here _ _ _ | with_reducible apply Put.there)); done) | (with_reducible apply Own.setRow; (focus (with_reducible apply hO)); (focus (repeat (first | with_reducible exact Put.here _ _ _ | with_reducible apply Put.there))); first | assumption | (simp; omega) | (simp; assumption)) | ((repeat' (first | with_reducible apply hO | with_reducible apply Own.set)); all_goals (repeat (first | with_reducible exact Put.here _ _ _ | with_reducible apply Put.there)); done))))); clear hO; intro w9 hO; (try dsimp only [List.set] at hO); ((try clear hf); have hf := hO.facts; (try simp only [FX, Nat.zero_add, Nat.reduceAdd, and_true, true_and, List.map_cons, List.map_nil, List.cons_append, List.nil_append] at hf))))
  all_goals first | (exfalso; omega) | (go_ret2; exact ⟨rfl, hO.toExt⟩)
set_option maxHeartbeats 2000000 in
set_option maxRecDepth 100000 in
theorem queueText_shape (a b : Int) (d : ByteArray) (w : World) (h : LibOk w) (hok : ¬ (a < 0 ∨ 999999 < a ∨ b < 1 ∨ 9 < b)) (hd : ¬ (d.size = 0 ∨ NameOk d)) (hds : d.size ≤ 50) :
    Calls Tryd.prog 23 #[.agg #[.int .i64 a, .int .i64 b, .string d]] w fun e w' => e = .returned (.tuple #[.string ⟨#[]⟩, .iface 23 (.int .i64 3)]) ∧ Ext w w' := by
  have hO := lib_base h
  have hdl : d.toList.length = d.size := by rw [ByteArray.toList_eq]; rfl
  have hd1 : ¬ d.toList = [] := fun e => hd (.inl (by rw [← hdl, e]; rfl))
  have HN1 := fun w => name_any d w (by omega)
  rw [decide_eq_false (fun h => hd (.inr h))] at HN1
  clear hd
  have k1 : 0 ≤ a := by omega
  have k2 : a ≤ 999999 := by omega
  have k3 : 1 ≤ b := by omega
  have k4 : b ≤ 9 := by omega
  clear hok
  go_enter Tryd.func23, Tryd.ntmps23
  go_wp2_with (first | (go_at_call 13; (with_reducible apply Calls.mono (HN1 _); rintro e8 w8 ⟨rfl, rfl⟩; dsimp only)) | ((first | with_reducible refine wpList_alloc_own hO ?_ | with_reducible refine wpList_drew_own hO ?_ | with_reducible refine wp_alloc_own hO ?_ | with_reducible refine wp_drew_own hO ?_ | with_reducible refine bodyPost_alloc_own hO ?_ | with_reducible refine bodyPost_drew_own hO ?_ | ((first | with_reducible apply wpList_set_own | with_reducible apply wp_set_own | with_reducible apply bodyPost_set_own); (focus (first | (with_reducible apply Own.set; (focus (with_reducible apply hO)); (repeat (first | with_reducible exact Put.here _ _ _ | with_reducible apply Put.there)); done) | (with_reducible apply Own.setRow; (focus (with_reducible apply hO)); (focus (repeat (first | with_reducible exact Put.here _ _ _ | with_reducible apply Put.there))); first | assumption | (simp; omega) | (simp; assumption)) | ((repeat' (first | with_reducible apply hO | with_reducible apply Own.set)); all_goals (repeat (first | with_reducible exact Put.here _ _ _ | with_reducible apply Put.there)); done))))); clear hO; intro w9 hO; (try dsimp only [List.set] at hO); ((try clear hf); have hf := hO.facts; (try simp only [FX, Nat.zero_add, Nat.reduceAdd, and_true, true_and, List.map_cons, List.map_nil, List.cons_append, List.nil_append] at hf))))
  all_goals (try (exfalso; omega))
  all_goals first | (go_ret2; exact ⟨rfl, hO.toExt⟩) | (exfalso; simp_all; done)
set_option maxHeartbeats 2000000 in
set_option maxRecDepth 100000 in
theorem messageText_ok (n : Int) (a b : Nat) (d : ByteArray) (w : World) (h : LibOk w) (ha : a ≤ 9) (hb2 : b ≤ 2000000) (hds : d.size ≤ 28) :
    Calls Tryd.prog 27 #[.agg #[.int .i64 n, .int .i64 a, .int .i64 b, .string d]] w fun e w' => e = .returned (.tuple #[.string (rowS a b d), .nilIface]) ∧ Ext w w' := by
  have hO := lib_base h
  have hs1 := itoaB_size 6 a (by omega)
  have hs2 := itoaB_size 6 b (by omega)
  have HI1 := fun w (h : LibOk w) => itoa_any a w h (by omega) (by omega)
  have HI2 := fun w (h : LibOk w) => itoa_any b w h (by omega) (by omega)
  have hfin := rowS_eq a b d
  generalize rowS a b d = fin at *
  generalize itoaB (a : Int) = s1 at *
  generalize itoaB (b : Int) = s2 at *
  have HF := Lib.hid hfin
  clear hfin
  go_enter Tryd.func27, Tryd.ntmps27
  go_wp2_with (first | ((first | with_reducible refine wpList_alloc_own hO ?_ | with_reducible refine wpList_drew_own hO ?_ | with_reducible refine wp_alloc_own hO ?_ | with_reducible refine wp_drew_own hO ?_ | with_reducible refine bodyPost_alloc_own hO ?_ | with_reducible refine bodyPost_drew_own hO ?_ | ((first | with_reducible apply wpList_set_own | with_reducible apply wp_set_own | with_reducible apply bodyPost_set_own); (focus (first | (with_reducible apply Own.set; (focus (with_reducible apply hO)); (repeat (first | with_reducible exact Put.here _ _ _ | with_reducible apply Put.there)); done) | (with_reducible apply Own.setRow; (focus (with_reducible apply hO)); (focus (repeat (first | with_reducible exact Put.here _ _ _ | with_reducible apply Put.there))); first | assumption | (simp; omega) | (simp; assumption)) | ((repeat' (first | with_reducible apply hO | with_reducible apply Own.set)); all_goals (repeat (first | with_reducible exact Put.here _ _ _ | with_reducible apply Put.there)); done))))); clear hO; intro w9 hO; (try dsimp only [List.set] at hO); ((try clear hf); have hf := hO.facts; (try simp only [FX, Nat.zero_add, Nat.reduceAdd, and_true, true_and, List.map_cons, List.map_nil, List.cons_append, List.nil_append] at hf))))
  all_goals (try (exfalso; omega))
  (refine wp_region_run (fun _ => True) (fun _ _ _ _ => trivial) trivial ((0, 0) :: (1, 1) :: (3, 2) :: (0, 3) :: (0, 4) :: (1, 5) :: (3, 6) :: (0, 7) :: (0, 8) :: (0, 9) :: (1, 10) :: (0, 11) :: (0, 12) :: (0, 13) :: []) (by kernel_rfl) (by kernel_rfl) rfl (fun _ _ d _ _ h => by cases d <;> exact h) ?_; intro w9 hx9; replace hO := hO.ext hx9; clear hx9; ((try clear hf); have hf := hO.facts; (try simp only [FX, Nat.zero_add, Nat.reduceAdd, and_true, true_and, List.map_cons, List.map_nil, List.cons_append, List.nil_append] at hf)); (repeat (first | (apply inRun_p _ rfl rfl rfl; focus (intro w8 K8 hK8; (repeat (first | go_skip | go_guarded | go_step)); exact hK8)) | (apply inRun_l _ rfl rfl rfl; focus (intro w8 hx8 K8 hK8; have hO := hO.ext hx8; ((try clear hf); have hf := hO.facts; (try simp only [FX, Nat.zero_add, Nat.reduceAdd, and_true, true_and, List.map_cons, List.map_nil, List.cons_append, List.nil_append] at hf)); skip; (repeat (first | go_skip | go_guarded | go_step)); exact hK8)) | (apply inRun_q _ rfl; (focus (intro w8 hx8 K8 hK8; have hO := hO.ext hx8; ((try clear hf); have hf := hO.facts; (try simp only [FX, Nat.zero_add, Nat.reduceAdd, and_true, true_and, List.map_cons, List.map_nil, List.cons_append, List.nil_append] at hf)); (repeat (first | go_skip | go_guarded | go_step | (go_at_call 45; (with_reducible apply Calls.mono (HI1 _ (Own.immOf (φ := LibOk) hO (by repeat (first | with_reducible exact Pick.here _ _ | with_reducible apply Pick.there)))); rintro e7 w7 ⟨rfl, hx7⟩; dsimp only)) | (go_at_call 45; (with_reducible apply Calls.mono (HI2 _ (Own.immOf (φ := LibOk) hO (by repeat (first | with_reducible exact Pick.here _ _ | with_reducible apply Pick.there)))); rintro e7 w7 ⟨rfl, hx7⟩; dsimp only)))); (first | exact (by repeat (first | exact Ext.refl _ | assumption | refine Ext.of_drew ?_ | refine Ext.alloc ?_ _ | refine Ext.drew ?_ | refine Ext.trans ?_ (by assumption))) | exact hK8 _ (by repeat (first | exact Ext.refl _ | assumption | refine Ext.of_drew ?_ | refine Ext.alloc ?_ _ | refine Ext.drew ?_ | refine Ext.trans ?_ (by assumption)))))); (focus (exact rfl)); intro w8 hx8; replace hO := hO.ext hx8; clear hx8; ((try clear hf); have hf := hO.facts; (try simp only [FX, Nat.zero_add, Nat.reduceAdd, and_true, true_and, List.map_cons, List.map_nil, List.cons_append, List.nil_append] at hf))))))
  refine inRun_nil ?_
  go_wp2_with fail
  go_ret2
  exact ⟨by rw [HF.out]; rfl, hO.toExt⟩
set_option maxHeartbeats 2000000 in
set_option maxRecDepth 100000 in
theorem messageText_bound (n a b : Int) (d : ByteArray) (w : World) (h : LibOk w) (hbad : a < 0 ∨ 9 < a ∨ b < 0 ∨ 2000000 < b ∨ 28 < d.size) :
    Calls Tryd.prog 27 #[.agg #[.int .i64 n, .int .i64 a, .int .i64 b, .string d]] w fun e w' => e = .returned (.tuple #[.string ⟨#[]⟩, .iface 23 (.int .i64 1)]) ∧ Ext w w' := by
  have hO := lib_base h
  go_enter Tryd.func27, Tryd.ntmps27
  go_wp2_with (first | ((first | with_reducible refine wpList_alloc_own hO ?_ | with_reducible refine wpList_drew_own hO ?_ | with_reducible refine wp_alloc_own hO ?_ | with_reducible refine wp_drew_own hO ?_ | with_reducible refine bodyPost_alloc_own hO ?_ | with_reducible refine bodyPost_drew_own hO ?_ | ((first | with_reducible apply wpList_set_own | with_reducible apply wp_set_own | with_reducible apply bodyPost_set_own); (focus (first | (with_reducible apply Own.set; (focus (with_reducible apply hO)); (repeat (first | with_reducible exact Put.here _ _ _ | with_reducible apply Put.there)); done) | (with_reducible apply Own.setRow; (focus (with_reducible apply hO)); (focus (repeat (first | with_reducible exact Put.here _ _ _ | with_reducible apply Put.there))); first | assumption | (simp; omega) | (simp; assumption)) | ((repeat' (first | with_reducible apply hO | with_reducible apply Own.set)); all_goals (repeat (first | with_reducible exact Put.here _ _ _ | with_reducible apply Put.there)); done))))); clear hO; intro w9 hO; (try dsimp only [List.set] at hO); ((try clear hf); have hf := hO.facts; (try simp only [FX, Nat.zero_add, Nat.reduceAdd, and_true, true_and, List.map_cons, List.map_nil, List.cons_append, List.nil_append] at hf))))
  all_goals first | (exfalso; omega) | (go_ret2; exact ⟨rfl, hO.toExt⟩)
end Go.Proofs.YtmjdgcgmlgbfjaaDoor
