/- Texts Row4, Row6, KeyC, Row7, Change, Change2 of this claim, laid together. -/
import Derived.Test.YtmknhibaoopjjaaGreatDoorGTopReadProof22
import Derived.WalkSpells
import Derived.WalkLawsBesides
import Derived.Test.YtmknhibaoopjjaaGreatDoorGTopReadProof3
import Derived.Test.YtmknhibaoopjjaaGreatDoorGTopReadProof7
set_option linter.unusedVariables false
set_option linter.unusedSimpArgs false
namespace Go.Proofs.YtmknhibaoopjjaaGreatDoor
open Go.RowKit
theorem LibOk.up {w w' : World} (h : LibOk w) (hb : ∀ b, b < w.heap.size → w'.heap[b]? = w.heap[b]?) : LibOk w' := by
  have up : ∀ {a v}, w.cell? a = some v → w'.cell? a = some v := fun {a v} hc => by
    have hl : a.block < w.heap.size := by
      unfold World.cell? at hc
      split at hc
      · rename_i he; exact (Array.getElem?_eq_some_iff.1 he).1
      · cases hc
    rw [World.cell?_of_block (w := w) (hb _ hl)]; exact hc
  exact ⟨h.max.imp fun _ h => up h, h.syn.imp fun _ h => h.imp fun _ h => up h, h.rng.imp fun _ h => h.imp fun _ h => up h, tab_up h.tab hb⟩
theorem lib_base {w : World} (h : LibOk w) : Own (fun _ => False) w w [.imm LibOk] := Own.base w _ fun w' hw' => h.up hw'
/-- What stands in a row: two numbers and a text. -/
def rowS (a b : Nat) (d : ByteArray) : ByteArray := itoaB a ++ sp ++ (itoaB b ++ sp ++ d)
theorem rowS_eq (a b : Nat) (d : ByteArray) : (((itoaB a ++ ⟨#[32]⟩) ++ itoaB b) ++ ⟨#[32]⟩) ++ d = rowS a b d := ba_ext (by
  unfold rowS
  rw [app_data, app_data, app_data, app_data, app_data, app_data, app_data, app_data]; simp only [List.append_assoc]; rfl)
theorem rowS_size (a b : Nat) (d : ByteArray) : (rowS a b d).size = (itoaB a).size + (itoaB b).size + 2 + d.size := by
  unfold rowS
  rw [ByteArray.size_append, ByteArray.size_append, ByteArray.size_append, ByteArray.size_append]
  show (itoaB a).size + 1 + ((itoaB b).size + 1 + d.size) = _
  omega
set_option maxHeartbeats 2000000 in
set_option maxRecDepth 100000 in
theorem queueText_ok (a b : Nat) (d : ByteArray) (w : World) (h : LibOk w) (ha : a ≤ 999999) (hb1 : 1 ≤ b) (hb2 : b ≤ 9) (hd : d.size = 0 ∨ NameOk d) (hds : d.size ≤ 50) :
    Calls Tryz.prog 181 #[.agg #[.int .i64 a, .int .i64 b, .string d]] w fun e w' => e = .returned (.tuple #[.string (rowS a b d), .nilIface]) ∧ Ext w w' := by
  have hO := lib_base h
  have hs1 := itoaB_size 6 a (by omega)
  have hs2 := itoaB_size 6 b (by omega)
  have HI1 := fun w (h : LibOk w) => itoa_any a w h (by omega) (by omega)
  have HI2 := fun w (h : LibOk w) => itoa_any b w h (by omega) (by omega)
  have hfin := rowS_eq a b d
  generalize rowS a b d = fin at *
  generalize itoaB (a : Int) = s1 at *
  generalize itoaB (b : Int) = s2 at *
  have HF := Lib.hid hfin
  clear hfin
  have hdl : d.toList.length = d.size := by rw [ByteArray.toList_eq]; rfl
  by_cases hd0 : d.size = 0
  · have hd1 : d.toList = [] := List.length_eq_zero_iff.1 (by omega)
    go_enter Tryz.func181, Tryz.ntmps181
    go_wp2_with (first | ((refine sy_ hO ?_); clear hO; intro w9 hO; (try dsimp only [List.set] at hO); ((try clear hf); have hf := fa_ hO)))
    all_goals (try (exfalso; omega))
    (refine wp_region_run (fun _ => True) (fun _ _ _ _ => trivial) trivial ((0, 0) :: (1, 1) :: (3, 2) :: (0, 3) :: (0, 4) :: (1, 5) :: (3, 6) :: (0, 7) :: (0, 8) :: (0, 9) :: (1, 10) :: (0, 11) :: (0, 12) :: (0, 13) :: []) (by kernel_rfl) (by kernel_rfl) rfl (fun _ _ d _ _ h => by cases d <;> exact h) ?_; intro w9 hx9; replace hO := hO.ext hx9; clear hx9; ((try clear hf); have hf := fa_ hO); (repeat (first | (apply inRun_p _ rfl rfl rfl; focus (intro w8 K8 hK8; (repeat (first | go_skip | go_guarded | go_step)); exact hK8)) | (apply inRun_l _ rfl rfl rfl; focus (intro w8 hx8 K8 hK8; have hO := hO.ext hx8; ((try clear hf); have hf := fa_ hO); skip; (repeat (first | go_skip | go_guarded | go_step)); exact hK8)) | (apply inRun_q _ rfl; (focus (intro w8 hx8 K8 hK8; have hO := hO.ext hx8; ((try clear hf); have hf := fa_ hO); (repeat (first | go_skip | go_guarded | go_step | (go_at_call 193; (with_reducible apply Calls.mono (HI1 _ (Own.immOf (φ := LibOk) hO pk_)); rintro e7 w7 ⟨rfl, hx7⟩; dsimp only)) | (go_at_call 193; (with_reducible apply Calls.mono (HI2 _ (Own.immOf (φ := LibOk) hO pk_)); rintro e7 w7 ⟨rfl, hx7⟩; dsimp only)))); (first | exact xt_ | exact hK8 _ xt_))); (focus (exact rfl)); intro w8 hx8; replace hO := hO.ext hx8; clear hx8; ((try clear hf); have hf := fa_ hO))))) -- M1
    refine inRun_nil ?_
    go_wp2_with fail
    go_ret2
    exact ⟨by rw [HF.out]; rfl, hO.toExt⟩
  · have hd1 : ¬ d.toList = [] := fun e => hd0 (by rw [← hdl, e]; rfl)
    have HN1 := fun w => name_any d w (by omega)
    rw [decide_eq_true (hd.resolve_left hd0)] at HN1
    go_enter Tryz.func181, Tryz.ntmps181
    go_wp2_with (first | (go_at_call 145; (with_reducible apply Calls.mono (HN1 _); rintro e8 w8 ⟨rfl, rfl⟩; dsimp only)) | ((refine sy_ hO ?_); clear hO; intro w9 hO; (try dsimp only [List.set] at hO); ((try clear hf); have hf := fa_ hO)))
    all_goals (try (exfalso; omega))
    (refine wp_region_run (fun _ => True) (fun _ _ _ _ => trivial) trivial ((0, 0) :: (1, 1) :: (3, 2) :: (0, 3) :: (0, 4) :: (1, 5) :: (3, 6) :: (0, 7) :: (0, 8) :: (0, 9) :: (1, 10) :: (0, 11) :: (0, 12) :: (0, 13) :: []) (by kernel_rfl) (by kernel_rfl) rfl (fun _ _ d _ _ h => by cases d <;> exact h) ?_; intro w9 hx9; replace hO := hO.ext hx9; clear hx9; ((try clear hf); have hf := fa_ hO); (repeat (first | (apply inRun_p _ rfl rfl rfl; focus (intro w8 K8 hK8; (repeat (first | go_skip | go_guarded | go_step)); exact hK8)) | (apply inRun_l _ rfl rfl rfl; focus (intro w8 hx8 K8 hK8; have hO := hO.ext hx8; ((try clear hf); have hf := fa_ hO); skip; (repeat (first | go_skip | go_guarded | go_step)); exact hK8)) | (apply inRun_q _ rfl; (focus (intro w8 hx8 K8 hK8; have hO := hO.ext hx8; ((try clear hf); have hf := fa_ hO); (repeat (first | go_skip | go_guarded | go_step | (go_at_call 193; (with_reducible apply Calls.mono (HI1 _ (Own.immOf (φ := LibOk) hO pk_)); rintro e7 w7 ⟨rfl, hx7⟩; dsimp only)) | (go_at_call 193; (with_reducible apply Calls.mono (HI2 _ (Own.immOf (φ := LibOk) hO pk_)); rintro e7 w7 ⟨rfl, hx7⟩; dsimp only)))); (first | exact xt_ | exact hK8 _ xt_))); (focus (exact rfl)); intro w8 hx8; replace hO := hO.ext hx8; clear hx8; ((try clear hf); have hf := fa_ hO))))) -- M1
    refine inRun_nil ?_
    go_wp2_with fail
    go_ret2
    exact ⟨by rw [HF.out]; rfl, hO.toExt⟩
set_option maxHeartbeats 2000000 in
set_option maxRecDepth 100000 in
theorem queueText_bound (a b : Int) (d : ByteArray) (w : World) (h : LibOk w) (hbad : a < 0 ∨ 999999 < a ∨ b < 1 ∨ 9 < b) :
    Calls Tryz.prog 181 #[.agg #[.int .i64 a, .int .i64 b, .string d]] w fun e w' => e = .returned (.tuple #[.string ⟨#[]⟩, .iface 127 (.int .i64 1)]) ∧ Ext w w' := by
  have hO := lib_base h
  go_enter Tryz.func181, Tryz.ntmps181
  go_wp2_with (first | ((refine sy_ hO ?_); clear hO; intro w9 hO; (try dsimp only [List.set] at hO); ((try clear hf); have hf := fa_ hO)))
  all_goals first | (exfalso; omega) | (go_ret2; exact ⟨rfl, hO.toExt⟩)
set_option maxHeartbeats 2000000 in
set_option maxRecDepth 100000 in
theorem queueText_shape (a b : Int) (d : ByteArray) (w : World) (h : LibOk w) (hok : ¬ (a < 0 ∨ 999999 < a ∨ b < 1 ∨ 9 < b)) (hd : ¬ (d.size = 0 ∨ NameOk d)) (hds : d.size ≤ 50) :
    Calls Tryz.prog 181 #[.agg #[.int .i64 a, .int .i64 b, .string d]] w fun e w' => e = .returned (.tuple #[.string ⟨#[]⟩, .iface 127 (.int .i64 3)]) ∧ Ext w w' := by
  have hO := lib_base h
  have hdl : d.toList.length = d.size := by rw [ByteArray.toList_eq]; rfl
  have hd1 : ¬ d.toList = [] := fun e => hd (.inl (by rw [← hdl, e]; rfl))
  have HN1 := fun w => name_any d w (by omega)
  rw [decide_eq_false (fun h => hd (.inr h))] at HN1
  clear hd
  have k1 : 0 ≤ a := by omega
  have k2 : a ≤ 999999 := by omega
  have k3 : 1 ≤ b := by omega
  have k4 : b ≤ 9 := by omega
  clear hok
  go_enter Tryz.func181, Tryz.ntmps181
  go_wp2_with (first | (go_at_call 145; (with_reducible apply Calls.mono (HN1 _); rintro e8 w8 ⟨rfl, rfl⟩; dsimp only)) | ((refine sy_ hO ?_); clear hO; intro w9 hO; (try dsimp only [List.set] at hO); ((try clear hf); have hf := fa_ hO)))
  all_goals (try (exfalso; omega))
  all_goals first | (go_ret2; exact ⟨rfl, hO.toExt⟩) | (exfalso; simp_all; done)
set_option maxHeartbeats 2000000 in
set_option maxRecDepth 100000 in
theorem messageText_ok (n : Int) (a b : Nat) (d : ByteArray) (w : World) (h : LibOk w) (ha : a ≤ 9) (hb2 : b ≤ 2000000) (hds : d.size ≤ 28) :
    Calls Tryz.prog 182 #[.agg #[.int .i64 n, .int .i64 a, .int .i64 b, .string d]] w fun e w' => e = .returned (.tuple #[.string (rowS a b d), .nilIface]) ∧ Ext w w' := by
  have hO := lib_base h
  have hs1 := itoaB_size 6 a (by omega)
  have hs2 := itoaB_size 6 b (by omega)
  have HI1 := fun w (h : LibOk w) => itoa_any a w h (by omega) (by omega)
  have HI2 := fun w (h : LibOk w) => itoa_any b w h (by omega) (by omega)
  have hfin := rowS_eq a b d
  generalize rowS a b d = fin at *
  generalize itoaB (a : Int) = s1 at *
  generalize itoaB (b : Int) = s2 at *
  have HF := Lib.hid hfin
  clear hfin
  go_enter Tryz.func182, Tryz.ntmps182
  go_wp2_with (first | ((refine sy_ hO ?_); clear hO; intro w9 hO; (try dsimp only [List.set] at hO); ((try clear hf); have hf := fa_ hO)))
  all_goals (try (exfalso; omega))
  (refine wp_region_run (fun _ => True) (fun _ _ _ _ => trivial) trivial ((0, 0) :: (1, 1) :: (3, 2) :: (0, 3) :: (0, 4) :: (1, 5) :: (3, 6) :: (0, 7) :: (0, 8) :: (0, 9) :: (1, 10) :: (0, 11) :: (0, 12) :: (0, 13) :: []) (by kernel_rfl) (by kernel_rfl) rfl (fun _ _ d _ _ h => by cases d <;> exact h) ?_; intro w9 hx9; replace hO := hO.ext hx9; clear hx9; ((try clear hf); have hf := fa_ hO); (repeat (first | (apply inRun_p _ rfl rfl rfl; focus (intro w8 K8 hK8; (repeat (first | go_skip | go_guarded | go_step)); exact hK8)) | (apply inRun_l _ rfl rfl rfl; focus (intro w8 hx8 K8 hK8; have hO := hO.ext hx8; ((try clear hf); have hf := fa_ hO); skip; (repeat (first | go_skip | go_guarded | go_step)); exact hK8)) | (apply inRun_q _ rfl; (focus (intro w8 hx8 K8 hK8; have hO := hO.ext hx8; ((try clear hf); have hf := fa_ hO); (repeat (first | go_skip | go_guarded | go_step | (go_at_call 193; (with_reducible apply Calls.mono (HI1 _ (Own.immOf (φ := LibOk) hO pk_)); rintro e7 w7 ⟨rfl, hx7⟩; dsimp only)) | (go_at_call 193; (with_reducible apply Calls.mono (HI2 _ (Own.immOf (φ := LibOk) hO pk_)); rintro e7 w7 ⟨rfl, hx7⟩; dsimp only)))); (first | exact xt_ | exact hK8 _ xt_))); (focus (exact rfl)); intro w8 hx8; replace hO := hO.ext hx8; clear hx8; ((try clear hf); have hf := fa_ hO)))))
  refine inRun_nil ?_
  go_wp2_with fail
  go_ret2
  exact ⟨by rw [HF.out]; rfl, hO.toExt⟩
set_option maxHeartbeats 2000000 in
set_option maxRecDepth 100000 in
theorem messageText_bound (n a b : Int) (d : ByteArray) (w : World) (h : LibOk w) (hbad : a < 0 ∨ 9 < a ∨ b < 0 ∨ 2000000 < b ∨ 28 < d.size) :
    Calls Tryz.prog 182 #[.agg #[.int .i64 n, .int .i64 a, .int .i64 b, .string d]] w fun e w' => e = .returned (.tuple #[.string ⟨#[]⟩, .iface 127 (.int .i64 1)]) ∧ Ext w w' := by
  have hO := lib_base h
  go_enter Tryz.func182, Tryz.ntmps182
  go_wp2_with (first | ((refine sy_ hO ?_); clear hO; intro w9 hO; (try dsimp only [List.set] at hO); ((try clear hf); have hf := fa_ hO)))
  all_goals first | (exfalso; omega) | (go_ret2; exact ⟨rfl, hO.toExt⟩)
end Go.Proofs.YtmknhibaoopjjaaGreatDoor
namespace Go.Proofs.YtmknhibaoopjjaaGreatDoor
open Go.RowKit
theorem Tryz.intU8 : Tryz.prog.underlying 5 = some (.int .u8) := by kernel_rfl
theorem push_one (m : Int) : ([m] : List Int).foldl (fun r n => r.push (UInt8.ofNat n.toNat)) ByteArray.empty = ⟨#[UInt8.ofNat m.toNat]⟩ := rfl
set_option maxHeartbeats 2000000 in
set_option maxRecDepth 100000 in
theorem decimal_any (n : Nat) : ∀ w, n ≤ 2000000000 → Calls Tryz.prog 211 #[.int .i64 n] w fun e w' => e = .returned (.string (itoaB n)) ∧ Ext w w' := by
  induction n using Nat.strongRecOn with
  | ind n ih =>
    intro w hn
    have hO := Own.start w (fun _ => False)
    by_cases h10 : n < 10
    · have e : itoaB n = ⟨#[UInt8.ofNat (48 + n)]⟩ := ba_ext (by rw [itoaB_list, dec_one n h10]; rfl)
      rw [e]
      obtain ⟨y, hy⟩ : ∃ y : ByteArray, y = ⟨#[UInt8.ofNat (48 + n)]⟩ := ⟨_, rfl⟩
      have HY := Lib.hid hy
      rw [← hy]
      clear hy e
      go_enter Tryz.func211, Tryz.ntmps211
      go_wp2_with (first | (refine wpList_bytes_own4 hO (r := Var _ [.int .u8 (48 + (n : Int))] 5) pk_ rfl (.tmp 14) 174 9 5 rfl Tryz.underlying174 Tryz.intU8 Tryz.underlying9 _ 0 1 1 [(48 + (n : Int))] rfl rfl (by intro j u hj; cases j with | zero => (injection hj with hj; subst hj; exact hf.1) | succ j => simp at hj) ?_; rw [push_one, show (48 + (n : Int)).toNat = 48 + n from by omega, ← HY.out]) | ((refine sy_ hO ?_); clear hO; intro w9 hO; (try dsimp only [List.set] at hO); ((try clear hf); have hf := fa_ hO))) -- M1
      go_ret
      exact ⟨rfl, hO.toExt⟩
    · have e : itoaB n = itoaB ((n / 10 : Nat) : Int) ++ ⟨#[UInt8.ofNat (48 + n % 10)]⟩ := ba_ext (by rw [app_data, itoaB_list, itoaB_list, dec_step n h10]; rfl)
      have hs := itoaB_size 9 (n / 10) (by omega)
      have HD := fun w => ih (n / 10) (by omega) w (by omega)
      rw [show ((n / 10 : Nat) : Int) = (n : Int) / 10 from by omega] at HD hs e
      rw [e]
      generalize itoaB ((n : Int) / 10) = x at *
      obtain ⟨y, hy⟩ : ∃ y : ByteArray, y = ⟨#[UInt8.ofNat (48 + n % 10)]⟩ := ⟨_, rfl⟩
      have HY := Lib.hid hy
      have hys : y.size = 1 := by rw [hy]; rfl
      rw [← hy]
      clear hy e ih
      go_enter Tryz.func211, Tryz.ntmps211
      go_wp2_with (first | ((refine sy_ hO ?_); clear hO; intro w9 hO; (try dsimp only [List.set] at hO); ((try clear hf); have hf := fa_ hO)))
      refine wp_region_plan [0, 1, 3, 4, 5, 6, 9, 10] (.pure 0 <| .pure 1 <| .pure 3 <| .pure 4 <| .pure 5 <| .pure 6 <| .fork 2 (.one 7 <| .one 8 <| .pure 9 <| .pure 10 .done) 7 (.fork 2 (.one 8 <| .pure 9 <| .pure 10 .done) 8 (.one 2 <| .pure 9 <| .pure 10 .done))) (by kernel_rfl) (by kernel_rfl) (fun _ _ d _ _ h => by cases d <;> exact h) ?_
      intro w9 hx9; replace hO := hO.ext hx9; clear hx9
      ((try clear hf); have hf := fa_ hO)
      (repeat (apply inPlan_p _ rfl rfl rfl; focus (intro w8 K8 hK8; (repeat (first | go_skip | go_guarded | go_step)); exact hK8)))
      refine inPlan_fork rfl rfl ?_ ?_
      · (intro K8 hK8; (repeat (first | go_skip | go_guarded | go_step)); (go_at_call 211; (with_reducible apply Calls.mono (HD _); rintro e7 w7 ⟨rfl, hx7⟩; replace hO := hO.ext hx7; clear hx7; dsimp only; ((try clear hf); have hf := fa_ hO))); (repeat go_step))
        refine inPlan_one rfl ?_
        (intro K8 hK8; (repeat (first | go_skip | go_guarded | go_step)); with_reducible refine inPlan_alloc_own hO ?_; clear hO; intro w9 hO; ((try clear hf); have hf := fa_ hO))
        refine inPlan_one rfl ?_
        (intro K8 hK8; refine wpList_bytes_own4 hO (r := Var _ [.int .u8 (48 + (n : Int) % 10)] 5) pk_ rfl (.tmp 23) 174 9 5 rfl Tryz.underlying174 Tryz.intU8 Tryz.underlying9 _ 0 1 1 [(48 + (n : Int) % 10)] rfl rfl (by intro j u hj; cases j with | zero => (injection hj with hj; subst hj; exact hf.1) | succ j => simp at hj) ?_; rw [push_one, show (48 + (n : Int) % 10).toNat = 48 + n % 10 from by omega, ← HY.out]; (repeat go_step))
        (repeat (apply inPlan_p _ rfl rfl rfl; focus (intro w8 K8 hK8; (repeat (first | go_skip | go_guarded | go_step)); exact hK8)))
        refine inPlan_done ?_
        go_wp2_with (first | ((refine sy_ hO ?_); clear hO; intro w9 hO; (try dsimp only [List.set] at hO); ((try clear hf); have hf := fa_ hO)))
        go_ret
        exact ⟨rfl, hO.toExt⟩
      · (intro K8 hK8; (repeat (first | go_skip | go_guarded | go_step)); with_reducible refine inPlan_alloc_own hO ?_; clear hO; intro w9 hO; ((try clear hf); have hf := fa_ hO))
        refine inPlan_fork rfl rfl ?_ ?_
        · (intro K8 hK8; (repeat (first | go_skip | go_guarded | go_step)); (go_at_call 211; (with_reducible apply Calls.mono (HD _); rintro e7 w7 ⟨rfl, hx7⟩; replace hO := hO.ext hx7; clear hx7; dsimp only; ((try clear hf); have hf := fa_ hO))); (repeat go_step))
          refine inPlan_one rfl ?_
          (intro K8 hK8; refine wpList_bytes_own4 hO (r := Var _ [.int .u8 (48 + (n : Int) % 10)] 5) pk_ rfl (.tmp 23) 174 9 5 rfl Tryz.underlying174 Tryz.intU8 Tryz.underlying9 _ 0 1 1 [(48 + (n : Int) % 10)] rfl rfl (by intro j u hj; cases j with | zero => (injection hj with hj; subst hj; exact hf.1) | succ j => simp at hj) ?_; rw [push_one, show (48 + (n : Int) % 10).toNat = 48 + n % 10 from by omega, ← HY.out]; (repeat go_step))
          (repeat (apply inPlan_p _ rfl rfl rfl; focus (intro w8 K8 hK8; (repeat (first | go_skip | go_guarded | go_step)); exact hK8)))
          refine inPlan_done ?_
          go_wp2_with (first | ((refine sy_ hO ?_); clear hO; intro w9 hO; (try dsimp only [List.set] at hO); ((try clear hf); have hf := fa_ hO)))
          go_ret
          exact ⟨rfl, hO.toExt⟩
        · (intro K8 hK8; refine wpList_bytes_own4 hO (r := Var _ [.int .u8 (48 + (n : Int) % 10)] 5) pk_ rfl (.tmp 23) 174 9 5 rfl Tryz.underlying174 Tryz.intU8 Tryz.underlying9 _ 0 1 1 [(48 + (n : Int) % 10)] rfl rfl (by intro j u hj; cases j with | zero => (injection hj with hj; subst hj; exact hf.1) | succ j => simp at hj) ?_; rw [push_one, show (48 + (n : Int) % 10).toNat = 48 + n % 10 from by omega, ← HY.out]; (repeat go_step))
          refine inPlan_one rfl ?_
          (intro K8 hK8; (repeat (first | go_skip | go_guarded | go_step)); (go_at_call 211; (with_reducible apply Calls.mono (HD _); rintro e7 w7 ⟨rfl, hx7⟩; replace hO := hO.ext hx7; clear hx7; dsimp only; ((try clear hf); have hf := fa_ hO))); (repeat go_step))
          (repeat (apply inPlan_p _ rfl rfl rfl; focus (intro w8 K8 hK8; (repeat (first | go_skip | go_guarded | go_step)); exact hK8)))
          refine inPlan_done ?_
          go_wp2_with (first | ((refine sy_ hO ?_); clear hO; intro w9 hO; (try dsimp only [List.set] at hO); ((try clear hf); have hf := fa_ hO)))
          go_ret
          exact ⟨rfl, hO.toExt⟩
theorem pad_six (m : Nat) (h : m < 1000000) : List.replicate (6 - (Lib.decDigits m).length) 48 ++ Lib.decDigits m = esix m := by
  have z : d8 0 = 48 := rfl
  unfold esix
  by_cases h1 : m < 10
  · rw [dec_one m h1, show m / 100000 % 10 = 0 from by omega, show m / 10000 % 10 = 0 from by omega, show m / 1000 % 10 = 0 from by omega, show m / 100 % 10 = 0 from by omega, show m / 10 % 10 = 0 from by omega, show m % 10 = m from by omega]; rfl
  rw [dec_step m h1]
  by_cases h2 : m / 10 < 10
  · rw [dec_one _ h2, show m / 100000 % 10 = 0 from by omega, show m / 10000 % 10 = 0 from by omega, show m / 1000 % 10 = 0 from by omega, show m / 100 % 10 = 0 from by omega, show m / 10 % 10 = m / 10 from by omega]; rfl
  rw [dec_step _ h2]
  by_cases h3 : m / 10 / 10 < 10
  · rw [dec_one _ h3, show m / 100000 % 10 = 0 from by omega, show m / 10000 % 10 = 0 from by omega, show m / 1000 % 10 = 0 from by omega, show m / 100 % 10 = m / 10 / 10 from by omega]; rfl
  rw [dec_step _ h3]
  by_cases h4 : m / 10 / 10 / 10 < 10
  · rw [dec_one _ h4, show m / 100000 % 10 = 0 from by omega, show m / 10000 % 10 = 0 from by omega, show m / 1000 % 10 = m / 10 / 10 / 10 from by omega, show m / 100 % 10 = m / 10 / 10 % 10 from by omega]; rfl
  rw [dec_step _ h4]
  by_cases h5 : m / 10 / 10 / 10 / 10 < 10
  · rw [dec_one _ h5, show m / 100000 % 10 = 0 from by omega, show m / 10000 % 10 = m / 10 / 10 / 10 / 10 from by omega, show m / 1000 % 10 = m / 10 / 10 / 10 % 10 from by omega, show m / 100 % 10 = m / 10 / 10 % 10 from by omega]; rfl
  rw [dec_step _ h5, dec_one (m / 10 / 10 / 10 / 10 / 10) (by omega), show m / 100000 % 10 = m / 10 / 10 / 10 / 10 / 10 from by omega, show m / 10000 % 10 = m / 10 / 10 / 10 / 10 % 10 from by omega, show m / 1000 % 10 = m / 10 / 10 / 10 % 10 from by omega, show m / 100 % 10 = m / 10 / 10 % 10 from by omega]; rfl
def padB (k m : Nat) : ByteArray := ⟨(List.replicate k 48 ++ Lib.decDigits m).toArray⟩
theorem padB_size (k m : Nat) : (padB k m).size = k + (Lib.decDigits m).length := by
  show (List.replicate k (48 : UInt8) ++ Lib.decDigits m).toArray.size = _
  simp
theorem padB_succ (k m : Nat) : (⟨#[48]⟩ : ByteArray) ++ padB k m = padB (k + 1) m := ba_ext (by
  rw [app_data]
  show [48] ++ (List.replicate k (48 : UInt8) ++ Lib.decDigits m) = List.replicate (k + 1) 48 ++ Lib.decDigits m
  rw [List.replicate_succ]; rfl)
set_option maxHeartbeats 2000000 in
set_option maxRecDepth 100000 in
theorem rsix_any (n : Nat) (w : World) : Calls Tryz.prog 210 #[.int .i64 n] w fun e w' => e = .returned (.string (six n)) ∧ Ext w w' := by
  have hm : n % 1000000 < 1000000 := Nat.mod_lt _ (by decide)
  have hdl := dec_len 5 (n % 1000000) (by omega)
  have hfin : ∀ k, k + (Lib.decDigits (n % 1000000)).length = 6 → padB k (n % 1000000) = six n := fun k hk => by
    unfold padB six
    rw [show k = 6 - (Lib.decDigits (n % 1000000)).length from by omega, pad_six _ hm]
  have HD : ∀ w, Calls Tryz.prog 211 #[.int .i64 ((n : Int) % 1000000)] w fun e w' => e = .returned (.string (padB 0 (n % 1000000))) ∧ Ext w w' := fun w => by
    have := decimal_any (n % 1000000) w (by omega)
    rw [show itoaB ((n % 1000000 : Nat) : Int) = padB 0 (n % 1000000) from ba_ext (by rw [itoaB_list]; rfl)] at this
    rwa [show ((n % 1000000 : Nat) : Int) = (n : Int) % 1000000 from by omega] at this
  have HF := Lib.hid hfin
  have hsz := fun k => padB_size k (n % 1000000)
  have hsu := fun k => padB_succ k (n % 1000000)
  have HS := Lib.hid hsz
  have HU := Lib.hid hsu
  clear hfin hsz hsu
  generalize (Lib.decDigits (n % 1000000)).length = L at *
  generalize n % 1000000 = m at *
  have hx := Ext.refl w
  go_enter Tryz.func210, Tryz.ntmps210
  go_wp2_with (go_at_call 211; with_reducible apply Calls.mono (HD _); rintro e8 w8 ⟨rfl, hx8⟩; replace hx := hx.trans hx8; clear hx8; dsimp only)
  rename World => w9
  go_loopw [3] (fun v wr => ∃ k : Nat, k + L ≤ 6 ∧ v = .string (padB k m) ∧ Ext w wr) (fun v _ => 6 - (match v with | .string x => x.size | _ => 0))
  case atStart => exact ⟨0, by omega, rfl, hx⟩
  case round =>
    clear hx
    obtain ⟨k, hk, rfl, hx⟩ := hrel
    have h1 := HS.out k
    have h2 := HU.out k
    have h3 := HS.out (k + 1)
    by_cases hlt : k + L < 6
    · have H2 := Lib.hid h2
      clear h2
      go_wp2
      rw [H2.out]
      exact ⟨⟨k + 1, by omega, rfl, hx⟩, by simp only [h1, h3]; omega⟩
    · have h4 := HF.out k (by omega)
      rw [h4] at h1 ⊢
      clear h2 h3
      go_wp2
      go_ret
      exact ⟨rfl, hx⟩
end Go.Proofs.YtmknhibaoopjjaaGreatDoor
namespace Go.Proofs.YtmknhibaoopjjaaGreatDoor
open Go.RowKit
theorem retS {a b : ByteArray} (h : a = b) : Ending.returned (.string a) = .returned (.string b) := by rw [h]
set_option maxHeartbeats 1000000 in
theorem queue_any (a : ByteArray) (w : World) (ha : a.size ≤ 1000) : Calls Tryz.prog 174 #[.string a] w fun e w' => e = .returned (.string (queB a)) ∧ w' = w := by
  go_enter Tryz.func174, Tryz.ntmps174
  go_wp2
  go_ret
  exact ⟨retS (ba_ext (by unfold queB; rw [app_data, app_data, app_data]; rfl)), rfl⟩
set_option maxHeartbeats 1000000 in
theorem message_any (a : ByteArray) (n : Int) (w : World) (ha : a.size ≤ 1000) (h : LibOk w) (hn : n ≤ 9223372036854775807) : Calls Tryz.prog 129 #[.string a, .int .i64 n] w fun e w' => e = .returned (.string (msgB a n.toNat)) ∧ Ext w w' := by
  have hz := six_size n.toNat
  have key : ∀ w, LibOk w → ∀ z : Int, z = (n.toNat : Int) → Calls Tryz.prog 147 #[.int .i64 z] w fun e w' => e = .returned (.string (six n.toNat)) ∧ Ext w w' := fun w h z hz => by
    rw [hz]; exact six_any n.toNat w h (by omega)
  have fin : ((⟨#[109, 47]⟩ ++ a) ++ ⟨#[47]⟩) ++ six n.toNat = msgB a n.toNat := ba_ext (by unfold msgB; rw [app_data, app_data, app_data, app_data, app_data, app_data, app_data]; simp only [List.append_assoc]; rfl)
  generalize six n.toNat = y at *
  have k1 := fun w h => key w h (max n 0) (by omega)
  go_enter Tryz.func129, Tryz.ntmps129
  go_wp2_with (go_at_call 147; with_reducible apply Calls.mono (k1 _ h); rintro e8 w8 ⟨rfl, hx⟩; dsimp only)
  all_goals first | (exfalso; omega) | (go_ret; exact ⟨rfl, hx⟩)
def loB (a : ByteArray) : ByteArray := mB ++ slash ++ a ++ slash
def hiB (a : ByteArray) : ByteArray := mB ++ slash ++ a ++ ⟨#[48]⟩
set_option maxHeartbeats 1000000 in
theorem messages_any (a : ByteArray) (w : World) (ha : a.size ≤ 1000) : Calls Tryz.prog 132 #[.string a] w fun e w' => e = .returned (.agg #[.string (loB a), .string (hiB a)]) ∧ Ext w w' := by
  have e1 : (⟨#[109, 47]⟩ ++ a) ++ ⟨#[47]⟩ = loB a := ba_ext (by unfold loB; rw [app_data, app_data, app_data, app_data, app_data]; rfl)
  have e2 : (⟨#[109, 47]⟩ ++ a) ++ ⟨#[48]⟩ = hiB a := ba_ext (by unfold hiB; rw [app_data, app_data, app_data, app_data, app_data]; rfl)
  have E1 := Lib.hid e1
  have E2 := Lib.hid e2
  clear e1 e2
  go_enter Tryz.func132, Tryz.ntmps132
  go_wp2
  refine bodyPost_ret (v := .agg #[.string (loB a), .string (hiB a)]) ?_ rfl ⟨rfl, ?_⟩
  · simp [results, Tryz.results132, go_sem, ← E1.out, ← E2.out]
  · exact (Ext.refl _).alloc _
def belowB (k hi : ByteArray) : Bool := hi.toList.isEmpty || slt k hi
def hasB (lo hi k : ByteArray) : Bool := !slt k lo && belowB k hi
set_option maxHeartbeats 400000 in
theorem belowB_any (k hi : ByteArray) (w : World) :
    Calls Tryz.prog 139 #[.string k, .string hi] w fun e w' => e = .returned (.bool (belowB k hi)) ∧ w' = w := by
  go_enter Tryz.func139, Tryz.ntmps139
  go_wp2
  all_goals (go_ret; refine ⟨?_, rfl⟩; simp [belowB, slt, *])
set_option maxHeartbeats 400000 in
theorem hasB_any (lo hi k : ByteArray) (w : World) :
    Calls Tryz.prog 69 #[.agg #[.string lo, .string hi], .string k] w fun e w' => e = .returned (.bool (hasB lo hi k)) ∧ Ext w w' := by
  go_enter Tryz.func69, Tryz.ntmps69
  go_wp2_with (go_at_call 139; refine (belowB_any _ _ _).mono ?_; rintro e w' ⟨rfl, rfl⟩)
  all_goals (go_ret; refine ⟨?_, (Ext.refl _).alloc _⟩; simp [hasB, slt, *])
end Go.Proofs.YtmknhibaoopjjaaGreatDoor
namespace Go.Proofs.YtmknhibaoopjjaaGreatDoor
open Go.RowKit
set_option maxHeartbeats 1000000 in
theorem messageKey_any (a : ByteArray) (n : Int) (w : World) (ha : a.size ≤ 1000) : Calls Tryz.prog 172 #[.string a, .int .i64 n] w fun e w' => e = .returned (.string (msgB a n.toNat)) ∧ Ext w w' := by
  have hz := six_size n.toNat
  have key : ∀ w, Calls Tryz.prog 210 #[.int .i64 (max 0 n)] w fun e w' => e = .returned (.string (six n.toNat)) ∧ Ext w w' := fun w => by
    rw [show max 0 n = (n.toNat : Int) from by omega]; exact rsix_any n.toNat w
  have fin : ((⟨#[109, 47]⟩ ++ a) ++ ⟨#[47]⟩) ++ six n.toNat = msgB a n.toNat := ba_ext (by unfold msgB; rw [app_data, app_data, app_data, app_data, app_data, app_data, app_data]; simp only [List.append_assoc]; rfl)
  generalize six n.toNat = y at *
  go_enter Tryz.func172, Tryz.ntmps172
  go_wp2_with (go_at_call 210; with_reducible apply Calls.mono (key _); rintro e8 w8 ⟨rfl, hx⟩; dsimp only)
  all_goals first | (exfalso; omega) | (go_ret; exact ⟨rfl, hx⟩)
set_option maxHeartbeats 1000000 in
theorem messagesSpan_any (a : ByteArray) (w : World) (ha : a.size ≤ 1000) : Calls Tryz.prog 177 #[.string a] w fun e w' => e = .returned (.agg #[.string (loB a), .string (hiB a)]) ∧ Ext w w' := by
  have e1 : (⟨#[109, 47]⟩ ++ a) ++ ⟨#[47]⟩ = loB a := ba_ext (by unfold loB; rw [app_data, app_data, app_data, app_data, app_data]; rfl)
  have e2 : (⟨#[109, 47]⟩ ++ a) ++ ⟨#[48]⟩ = hiB a := ba_ext (by unfold hiB; rw [app_data, app_data, app_data, app_data, app_data]; rfl)
  have E1 := Lib.hid e1
  have E2 := Lib.hid e2
  clear e1 e2
  go_enter Tryz.func177, Tryz.ntmps177
  go_wp2
  refine bodyPost_ret (v := .agg #[.string (loB a), .string (hiB a)]) ?_ rfl ⟨rfl, ?_⟩
  · simp [results, Tryz.results177, go_sem, ← E1.out, ← E2.out]
  · exact (Ext.refl _).alloc _
/-! A key, cut by places. -/
theorem ext_list (k : ByteArray) (i j : Nat) : (k.extract i j).data.toList = (k.data.toList.take j).drop i := by
  rw [ByteArray.data_extract, Array.toList_extract, List.extract_eq_take_drop, List.drop_take]
theorem key_split (k : ByteArray) (i : Nat) (h : i ≤ k.size) : k = k.extract 0 i ++ k.extract i k.size := ba_ext (by
  rw [app_data, ext_list, ext_list, List.drop_zero]
  have : k.size = k.data.toList.length := by simp
  rw [this, List.take_length, List.take_append_drop])
theorem six_of_digits (l : List UInt8) (hl : l.length = 6) (hd : ∀ c ∈ l, 48 ≤ c.toNat ∧ c.toNat ≤ 57) : ∃ m, m < 1000000 ∧ l = esix m := by
  match l, hl with
  | [a, b, c, d, e, f], _ =>
    have ha := hd a (by simp)
    have hb := hd b (by simp)
    have hc := hd c (by simp)
    have hd' := hd d (by simp)
    have he := hd e (by simp)
    have hf := hd f (by simp)
    have back : ∀ x : UInt8, 48 ≤ x.toNat → x.toNat ≤ 57 → x = d8 (x.toNat - 48) := fun x h1 h2 => UInt8.toNat_inj.1 (by rw [d8_toNat _ (by omega)]; omega)
    have mk : ∀ x : UInt8, 48 ≤ x.toNat ∧ x.toNat ≤ 57 → ∃ y, y < 10 ∧ x = d8 y := fun x h => ⟨x.toNat - 48, by omega, back x h.1 h.2⟩
    obtain ⟨x1, h1, rfl⟩ := mk a ha
    obtain ⟨x2, h2, rfl⟩ := mk b hb
    obtain ⟨x3, h3, rfl⟩ := mk c hc
    obtain ⟨x4, h4, rfl⟩ := mk d hd'
    obtain ⟨x5, h5, rfl⟩ := mk e he
    obtain ⟨x6, h6, rfl⟩ := mk f hf
    refine ⟨((((x1 * 10 + x2) * 10 + x3) * 10 + x4) * 10 + x5) * 10 + x6, by omega, ?_⟩
    unfold esix
    rw [show (((((x1 * 10 + x2) * 10 + x3) * 10 + x4) * 10 + x5) * 10 + x6) / 100000 % 10 = x1 from by omega, show (((((x1 * 10 + x2) * 10 + x3) * 10 + x4) * 10 + x5) * 10 + x6) / 10000 % 10 = x2 from by omega,
      show (((((x1 * 10 + x2) * 10 + x3) * 10 + x4) * 10 + x5) * 10 + x6) / 1000 % 10 = x3 from by omega, show (((((x1 * 10 + x2) * 10 + x3) * 10 + x4) * 10 + x5) * 10 + x6) / 100 % 10 = x4 from by omega,
      show (((((x1 * 10 + x2) * 10 + x3) * 10 + x4) * 10 + x5) * 10 + x6) / 10 % 10 = x5 from by omega, show (((((x1 * 10 + x2) * 10 + x3) * 10 + x4) * 10 + x5) * 10 + x6) % 10 = x6 from by omega]
theorem esix_digits (m : Nat) : ∀ c ∈ esix m, 48 ≤ c.toNat ∧ c.toNat ≤ 57 := by
  unfold esix
  intro c hc
  simp only [List.mem_cons, List.not_mem_nil, or_false] at hc
  rcases hc with rfl | rfl | rfl | rfl | rfl | rfl <;> (rw [d8_toNat _ (by omega)]; omega)
def head2 (k : ByteArray) : ByteArray := k.extract 0 2
def rest2 (k : ByteArray) : ByteArray := k.extract 2 k.size
def mid (k : ByteArray) : ByteArray := k.extract 2 (k.size - 7)
/-- Is each of the last six a digit? -/
def Tail6 (k : ByteArray) : Prop := ∀ i (h : i < k.size), k.size - 6 ≤ i → 48 ≤ k[i].toNat ∧ k[i].toNat ≤ 57
theorem ba_get (k : ByteArray) (i : Nat) (h : i < k.size) : k[i] = k.data.toList[i]'(by simpa using h) := rfl
theorem head2_list (k : ByteArray) : (head2 k).data.toList = k.data.toList.take 2 := by unfold head2; rw [ext_list, List.drop_zero]
theorem rest2_list (k : ByteArray) : (rest2 k).data.toList = k.data.toList.drop 2 := by
  unfold rest2
  rw [ext_list, show k.size = k.data.toList.length from by simp, List.take_length]
theorem key_tq (k : ByteArray) (x : ByteArray) (hx : x.size = 1) (h : head2 k = x ++ slash) : k = x ++ slash ++ rest2 k := ba_ext (by
  rw [app_data, ← h, head2_list, rest2_list, List.take_append_drop])
theorem rest2_app (x r : ByteArray) (hx : x.size = 1) : rest2 (x ++ slash ++ r) = r := ba_ext (by
  rw [rest2_list, app_data, app_data, show (x.data.toList ++ slash.data.toList ++ r.data.toList) = (x.data.toList ++ slash.data.toList) ++ r.data.toList from rfl]
  have : (x.data.toList ++ slash.data.toList).length = 2 := by
    rw [List.length_append]
    have h1 : x.data.toList.length = 1 := by simpa using hx
    rw [h1]; rfl
  rw [← this, List.drop_left])
theorem KeyOk_tq (k : ByteArray) (h : head2 k = tB ++ slash ∨ head2 k = qB ++ slash) : KeyOk k ↔ NameOk (rest2 k) := by
  rcases h with h | h
  · have e := key_tq k tB rfl h
    constructor
    · intro hk
      have := (KeyOk_cut k).1 hk
      have hc : cutB k slash = (tB, rest2 k, true) := by
        generalize rest2 k = r at e
        rw [e]; exact cutB_hit tB _ (by decide)
      rw [hc] at this
      rcases this.2 with h2 | h2
      · exact h2.2
      · exact absurd (show tB = mB from h2.1) (by decide)
    · intro hn
      exact .inl ⟨_, hn, .inl e⟩
  · have e := key_tq k qB rfl h
    constructor
    · intro hk
      have := (KeyOk_cut k).1 hk
      have hc : cutB k slash = (qB, rest2 k, true) := by
        generalize rest2 k = r at e
        rw [e]; exact cutB_hit qB _ (by decide)
      rw [hc] at this
      rcases this.2 with h2 | h2
      · exact h2.2
      · exact absurd (show qB = mB from h2.1) (by decide)
    · intro hn
      exact .inl ⟨_, hn, .inr e⟩
theorem mid_list (k : ByteArray) : (mid k).data.toList = (k.data.toList.take (k.size - 7)).drop 2 := by unfold mid; rw [ext_list]
theorem list_four (l : List UInt8) (h : 10 ≤ l.length) (hl : l.length - 7 < l.length) : l = l.take 2 ++ ((l.take (l.length - 7)).drop 2 ++ (l[l.length - 7]'hl :: l.drop (l.length - 6))) := by
  have e1 : l.take (l.length - 7) = l.take 2 ++ (l.take (l.length - 7)).drop 2 := by
    conv => lhs; rw [← List.take_append_drop 2 (l.take (l.length - 7))]
    rw [List.take_take, Nat.min_eq_left (by omega)]
  have e2 : l.drop (l.length - 7) = l[l.length - 7]'hl :: l.drop (l.length - 6) := by
    rw [List.drop_eq_getElem_cons hl, show l.length - 7 + 1 = l.length - 6 from by omega]
  conv => lhs; rw [← List.take_append_drop (l.length - 7) l, e1, e2]
  rw [List.append_assoc]
theorem tail6_list (k : ByteArray) : Tail6 k ↔ ∀ c ∈ k.data.toList.drop (k.size - 6), 48 ≤ c.toNat ∧ c.toNat ≤ 57 := by
  have hs : k.data.toList.length = k.size := by simp
  constructor
  · intro h c hc
    obtain ⟨i, hi, rfl⟩ := List.getElem_of_mem hc
    rw [List.length_drop, hs] at hi
    have := h (k.size - 6 + i) (by omega) (by omega)
    rw [ba_get] at this
    rw [List.getElem_drop]
    exact this
  · intro h i hi h6
    have hm : k.data.toList[i]'(by rw [hs]; exact hi) ∈ k.data.toList.drop (k.size - 6) := by
      rw [List.mem_iff_getElem]
      refine ⟨i - (k.size - 6), by rw [List.length_drop, hs]; omega, ?_⟩
      rw [List.getElem_drop]
      congr 1; omega
    have := h _ hm
    rw [ba_get]
    exact this
theorem KeyOk_m (k : ByteArray) (h : ¬ (2 < k.size ∧ (head2 k = tB ++ slash ∨ head2 k = qB ++ slash))) :
    KeyOk k ↔ 10 ≤ k.size ∧ head2 k = mB ++ slash ∧ (∃ h7 : k.size - 7 < k.size, k[k.size - 7] = 47) ∧ NameOk (mid k) ∧ Tail6 k := by
  have hs : k.data.toList.length = k.size := by simp
  constructor
  · rintro (⟨a, ha, hk | hk⟩ | ⟨q, n, hq, hn, hk⟩)
    · exfalso
      apply h
      have h1 := ha.1
      refine ⟨by rw [hk, ByteArray.size_append, ByteArray.size_append]; show 2 < 1 + 1 + a.size; omega, .inl (ba_ext ?_)⟩
      rw [head2_list, hk, app_data, app_data]; rfl
    · exfalso
      apply h
      have h1 := ha.1
      refine ⟨by rw [hk, ByteArray.size_append, ByteArray.size_append]; show 2 < 1 + 1 + a.size; omega, .inr (ba_ext ?_)⟩
      rw [head2_list, hk, app_data, app_data]; rfl
    · have hl : k.data.toList = 109 :: 47 :: (q.data.toList ++ 47 :: esix (n % 1000000)) := by
        rw [hk, app_data, app_data, app_data, app_data]; simp only [List.append_assoc]; rfl
      have hqs : q.data.toList.length = q.size := by simp
      have hsz : k.size = q.size + 9 := by
        rw [← hs, hl]; simp only [List.length_cons, List.length_append, hqs]
        show q.size + (6 + 1) + 1 + 1 = _; omega
      have h1 := hq.1
      refine ⟨by omega, ba_ext (by rw [head2_list, hl]; rfl), ⟨by omega, ?_⟩, ?_, ?_⟩
      · rw [ba_get]
        have : k.data.toList[k.size - 7]? = some 47 := by
          rw [hl, show k.size - 7 = q.size + 2 from by omega, ← hqs]
          simp
        have h2 := List.getElem?_eq_some_iff.1 this
        exact h2.2
      · rw [show mid k = q from ba_ext (by
          rw [mid_list, hl, show k.size - 7 = q.data.toList.length + 1 + 1 from by omega]
          simp)]
        exact hq
      · rw [tail6_list, hl, show k.size - 6 = q.data.toList.length + 1 + 1 + 1 from by omega]
        have : List.drop (q.data.toList.length + 1 + 1 + 1) (109 :: 47 :: (q.data.toList ++ 47 :: esix (n % 1000000))) = esix (n % 1000000) := by
          simp only [List.drop_succ_cons]
          rw [show q.data.toList.length + 1 = (q.data.toList ++ [47]).length from by simp, show q.data.toList ++ 47 :: esix (n % 1000000) = (q.data.toList ++ [47]) ++ esix (n % 1000000) from by simp, List.drop_left]
        rw [this]
        exact esix_digits _
  · rintro ⟨h10, h1, ⟨h7, h2⟩, h3, h4⟩
    rw [tail6_list] at h4
    have h5 := list_four k.data.toList (by omega) (by omega)
    obtain ⟨m, hm, h6⟩ := six_of_digits _ (by rw [List.length_drop, hs]; omega) h4
    rw [ba_get] at h2
    refine .inr ⟨mid k, m, h3, hm, ba_ext ?_⟩
    have h9 : (mB ++ slash).data.toList = k.data.toList.take 2 := by rw [← h1, head2_list]
    rw [app_data, h9, app_data, app_data, mid_list, show (six m).data.toList = esix m from by show esix (m % 1000000) = _; rw [Nat.mod_eq_of_lt hm], ← h6]
    have h8 : k.data.toList[k.data.toList.length - 7]'(by omega) = 47 := by
      rw [← h2]; congr 1 <;> omega
    rw [h8, hs] at h5
    try (first | exact h5 | (rw [List.append_assoc]; exact h5))
set_option maxHeartbeats 4000000 in
set_option maxRecDepth 100000 in
theorem keyFault_any (k : ByteArray) (w : World) (hs : k.size ≤ 300) : Calls Tryz.prog 62 #[.string k] w fun e w' => e = .returned (.int .i64 (keyN k)) ∧ w' = w := by
  by_cases h1 : 2 < k.size ∧ (head2 k = tB ++ slash ∨ head2 k = qB ++ slash)
  · obtain ⟨h2, h3⟩ := h1
    have hK := KeyOk_tq k h3
    have hrs : (rest2 k).size ≤ 300 := by unfold rest2; rw [ByteArray.size_extract]; omega
    have HN1 := fun w => nameMay_any (rest2 k) w (by omega)
    have hh : ((k.extract 0 2).toList == [116, 47]) = true ∨ ((k.extract 0 2).toList == [113, 47]) = true := by
      rcases h3 with h | h
      · left; rw [show k.extract 0 2 = tB ++ slash from h]; decide +kernel
      · right; rw [show k.extract 0 2 = qB ++ slash from h]; decide +kernel
    rw [show rest2 k = k.extract 2 k.size from rfl] at HN1 hK
    generalize hx : k.extract 0 2 = x at *
    by_cases hN : NameOk (k.extract 2 k.size)
    · rw [keyN_yes (hK.2 hN)]
      rw [decide_eq_true hN] at HN1
      clear hK hN h3
      cases ht : (x.toList == [116, 47]) with
      | true =>
        go_enter Tryz.func62, Tryz.ntmps62
        go_wp2_with (go_at_call 135; (with_reducible apply Calls.mono (HN1 _); rintro e8 w8 ⟨rfl, rfl⟩; dsimp only))
        go_ret
        exact ⟨rfl, rfl⟩
      | false =>
        rw [ht] at hh
        have hq := hh.resolve_left (by simp)
        clear hh
        go_enter Tryz.func62, Tryz.ntmps62
        go_wp2_with (go_at_call 135; (with_reducible apply Calls.mono (HN1 _); rintro e8 w8 ⟨rfl, rfl⟩; dsimp only))
        go_ret
        exact ⟨rfl, rfl⟩
    · rw [keyN_no (fun h => hN (hK.1 h))]
      rw [decide_eq_false hN] at HN1
      clear hK hN h3
      cases ht : (x.toList == [116, 47]) with
      | true =>
        go_enter Tryz.func62, Tryz.ntmps62
        go_wp2_with (go_at_call 135; (with_reducible apply Calls.mono (HN1 _); rintro e8 w8 ⟨rfl, rfl⟩; dsimp only))
        go_ret
        exact ⟨rfl, rfl⟩
      | false =>
        rw [ht] at hh
        have hq := hh.resolve_left (by simp)
        clear hh
        go_enter Tryz.func62, Tryz.ntmps62
        go_wp2_with (go_at_call 135; (with_reducible apply Calls.mono (HN1 _); rintro e8 w8 ⟨rfl, rfl⟩; dsimp only))
        go_ret
        exact ⟨rfl, rfl⟩
  · have hK := KeyOk_m k h1
    have hno : ¬ 2 < k.size ∨ ((k.extract 0 2).toList == [116, 47]) = false ∧ ((k.extract 0 2).toList == [113, 47]) = false := by
      by_cases h2 : 2 < k.size
      · right
        constructor
        · rw [show ([116, 47] : List UInt8) = (tB ++ slash).toList from by decide +kernel]
          exact list_neq (fun e => h1 ⟨h2, .inl e⟩)
        · rw [show ([113, 47] : List UInt8) = (qB ++ slash).toList from by decide +kernel]
          exact list_neq (fun e => h1 ⟨h2, .inr e⟩)
      · exact .inl h2
    clear h1
    by_cases h10 : 10 ≤ k.size
    · obtain ⟨ht, hq⟩ := hno.resolve_left (by omega)
      clear hno
      have hms : (mid k).size ≤ 300 := by unfold mid; rw [ByteArray.size_extract]; omega
      have HN1 := fun w => nameMay_any (mid k) w (by omega)
      have hmm : head2 k = mB ++ slash ↔ ((k.extract 0 2).toList == [109, 47]) = true := by
        rw [show ([109, 47] : List UInt8) = (mB ++ slash).toList from by decide +kernel]
        constructor
        · intro h; rw [show k.extract 0 2 = mB ++ slash from h]; simp
        · intro h
          apply Classical.byContradiction
          intro hne
          rw [list_neq (show k.extract 0 2 ≠ mB ++ slash from hne)] at h
          cases h
      rw [hmm] at hK
      clear hmm
      rw [show mid k = k.extract 2 (k.size - 7) from rfl] at HN1 hK
      generalize hx : k.extract 0 2 = x at *
      cases hm : (x.toList == [109, 47]) with
      | false =>
        rw [keyN_no (fun h => by have := (hK.1 h).2.1; rw [hm] at this; cases this)]
        clear hK
        go_enter Tryz.func62, Tryz.ntmps62
        go_wp2_with (go_at_call 135; (with_reducible apply Calls.mono (HN1 _); rintro e8 w8 ⟨rfl, rfl⟩; dsimp only))
        go_ret
        exact ⟨rfl, rfl⟩
      | true =>
        by_cases h47 : k[k.size - 7]'(by omega) = 47
        · by_cases hN : NameOk (k.extract 2 (k.size - 7))
          · have hK2 : KeyOk k ↔ Tail6 k := hK.trans ⟨fun h => h.2.2.2.2, fun h => ⟨h10, hm, ⟨by omega, h47⟩, hN, h⟩⟩
            clear hK
            rw [decide_eq_true hN] at HN1
            have hc : (((k[k.size - 7]'(by omega)).toNat : Int) != 47) = false := by rw [h47]; rfl
            go_enter Tryz.func62, Tryz.ntmps62
            go_wp2_with (go_at_call 135; (with_reducible apply Calls.mono (HN1 _); rintro e8 w8 ⟨rfl, rfl⟩; dsimp only)) -- M2
            clear hN HN1
            go_loop [6] (fun v => ∃ i : Nat, k.size - 6 ≤ i ∧ i ≤ k.size ∧ v = .int .i64 i ∧ Hid (∀ j (h : j < k.size), k.size - 6 ≤ j → j < i → 48 ≤ k[j].toNat ∧ k[j].toNat ≤ 57)) (fun v => k.size - (intOf v).toNat)
            case atStart => exact ⟨k.size - 6, by omega, by omega, by congr 1; omega, Lib.hid (fun j _ h1 h2 => by omega)⟩
            case round =>
              obtain ⟨i, hi1, hi2, rfl, HI⟩ := hrel
              by_cases hlt : i < k.size
              · go_wp2
                all_goals first
                  | (go_ret; refine ⟨?_, rfl⟩; rw [keyN_no (fun h => by have := hK2.1 h i hlt hi1; omega)]; rfl)
                  | (refine ⟨⟨i + 1, by omega, by omega, by go_num, Lib.hid (fun j hj h1 h2 => ?_)⟩, by simp [intOf]; omega⟩; rcases Nat.lt_or_ge j i with h3 | h3
                     · exact HI.out j hj h1 h3
                     · obtain rfl : j = i := by omega
                       omega)
              · go_wp2
                go_ret
                refine ⟨?_, rfl⟩
                rw [keyN_yes (hK2.2 (fun j hj h1 => HI.out j hj h1 (by omega)))]; rfl
          · rw [keyN_no (fun h => hN (hK.1 h).2.2.2.1)]
            rw [decide_eq_false hN] at HN1
            have hc : (((k[k.size - 7]'(by omega)).toNat : Int) != 47) = false := by rw [h47]; rfl
            clear hK hN
            go_enter Tryz.func62, Tryz.ntmps62
            go_wp2_with (go_at_call 135; (with_reducible apply Calls.mono (HN1 _); rintro e8 w8 ⟨rfl, rfl⟩; dsimp only))
            go_ret
            exact ⟨rfl, rfl⟩
        · rw [keyN_no (fun h => by obtain ⟨_, h⟩ := (hK.1 h).2.2.1; exact h47 h)]
          have hc : (((k[k.size - 7]'(by omega)).toNat : Int) != 47) = true := by
            have h48 : ¬ (k[k.size - 7]'(by omega)).toNat = 47 := fun e => h47 (UInt8.toNat_inj.1 e)
            simp only [bne_iff_ne]; omega
          clear hK
          go_enter Tryz.func62, Tryz.ntmps62
          go_wp2_with (go_at_call 135; (with_reducible apply Calls.mono (HN1 _); rintro e8 w8 ⟨rfl, rfl⟩; dsimp only))
          all_goals (go_ret; exact ⟨rfl, rfl⟩)
    · rw [keyN_no (fun h => h10 (hK.1 h).1)]
      clear hK
      by_cases h2 : 2 < k.size
      · obtain ⟨ht, hq⟩ := hno.resolve_left (by omega)
        clear hno
        generalize hx : k.extract 0 2 = x at *
        go_enter Tryz.func62, Tryz.ntmps62
        go_wp2_with (go_at_call 135; (with_reducible apply Calls.mono (HN1 _); rintro e8 w8 ⟨rfl, rfl⟩; dsimp only))
        go_ret
        exact ⟨rfl, rfl⟩
      · clear hno
        go_enter Tryz.func62, Tryz.ntmps62
        go_wp2_with (go_at_call 135; (with_reducible apply Calls.mono (HN1 _); rintro e8 w8 ⟨rfl, rfl⟩; dsimp only))
        go_ret
        exact ⟨rfl, rfl⟩
end Go.Proofs.YtmknhibaoopjjaaGreatDoor
namespace Go.Proofs.YtmknhibaoopjjaaGreatDoor
open Go.RowKit
/-- May it be a change? -/
def ChOk (c : Ch) : Prop := KeyOk c.key ∧ (c.gone = true → c.val.size = 0) ∧ c.val.size ≤ 40
open Classical in
noncomputable def chN (c : Ch) : Nat := if KeyOk c.key then (if c.gone = true ∧ c.val.size ≠ 0 then 3 else if 40 < c.val.size then 1 else 0) else 3
theorem chN_no {c : Ch} (h : ¬ KeyOk c.key) : chN c = 3 := if_neg h
theorem chN_gone {c : Ch} (h : KeyOk c.key) (h2 : c.gone = true) (h3 : c.val.size ≠ 0) : chN c = 3 := by unfold chN; rw [if_pos h, if_pos ⟨h2, h3⟩]
theorem chN_big {c : Ch} (h : KeyOk c.key) (h2 : c.gone = true → c.val.size = 0) (h3 : 40 < c.val.size) : chN c = 1 := by
  unfold chN; rw [if_pos h, if_neg (fun e => e.2 (h2 e.1)), if_pos h3]
theorem chN_ok {c : Ch} (h : ChOk c) : chN c = 0 := by
  unfold chN; rw [if_pos h.1, if_neg (fun e => e.2 (h.2.1 e.1)), if_neg (by have := h.2.2; omega)]
theorem chN_le (c : Ch) : chN c ≤ 3 := by
  unfold chN; split
  · split
    · omega
    · split <;> omega
  · omega
theorem chN_zero {c : Ch} : chN c = 0 ↔ ChOk c := by
  refine ⟨fun h => ?_, chN_ok⟩
  unfold chN at h
  split at h
  · rename_i h1
    split at h
    · cases h
    · rename_i h2
      split at h
      · cases h
      · rename_i h3
        refine ⟨h1, fun hg => ?_, by omega⟩
        by_cases hv : c.val.size = 0
        · exact hv
        · exact absurd ⟨hg, hv⟩ h2
  · cases h
theorem key_size {k : ByteArray} (h : KeyOk k) : k.size ≤ 15 := by
  rcases h with ⟨a, ha, rfl | rfl⟩ | ⟨q, n, hq, hn, rfl⟩
  · rw [ByteArray.size_append, ByteArray.size_append]; have := ha.2.1; show 1 + 1 + a.size ≤ 15; omega
  · rw [ByteArray.size_append, ByteArray.size_append]; have := ha.2.1; show 1 + 1 + a.size ≤ 15; omega
  · rw [ByteArray.size_append, ByteArray.size_append, ByteArray.size_append, ByteArray.size_append, six_size]; have := hq.2.1; show 1 + 1 + (q.size + 1 + 6) ≤ 15; omega
theorem size_list (d : ByteArray) : d.toList.length = d.size := by rw [ByteArray.toList_eq]; rfl
theorem list_nil {d : ByteArray} : d.toList = [] ↔ d.size = 0 := by rw [← List.length_eq_zero_iff, size_list]
set_option maxHeartbeats 2000000 in
set_option maxRecDepth 100000 in
theorem chCheck_any (c : Ch) (w : World) (h : LibOk w) (hs : c.key.size ≤ 300) (hv : c.val.size ≤ 1000) : Calls Tryz.prog 100 #[c.v] w fun e w' => e = .returned (errV (chN c)) ∧ Ext w w' := by
  have hO := lib_base h
  have hC := fun w h => check_any c.key w h (by omega)
  unfold Ch.v
  by_cases hk : KeyOk c.key
  · rw [keyN_yes hk, show errV 0 = .nilIface from rfl] at hC
    by_cases hg : c.gone = true ∧ c.val.size ≠ 0
    · rw [chN_gone hk hg.1 hg.2]
      have e : errV 3 = .iface 127 (.int .i64 3) := rfl
      rw [e]
      clear e
      have hvl : ¬ c.val.toList = [] := fun e => hg.2 (list_nil.1 e)
      obtain ⟨k, v, g⟩ := c
      obtain ⟨rfl, hg2⟩ := hg
      dsimp only at *
      go_enter Tryz.func100, Tryz.ntmps100
      go_wp2_with (first | (go_at_call 80; (with_reducible apply Calls.mono (hC _ (Own.immOf (φ := LibOk) hO pk_)); rintro e8 w8 ⟨rfl, hx8⟩; replace hO := hO.ext hx8; clear hx8; dsimp only; ((try clear hf); have hf := fa_ hO))) | ((refine sy_ hO ?_); clear hO; intro w9 hO; (try dsimp only [List.set] at hO); ((try clear hf); have hf := fa_ hO)))
      all_goals first | (exfalso; omega) | (go_ret; exact ⟨rfl, hO.toExt⟩) | (exfalso; simp_all; done)
    · have hg' : c.gone = true → c.val.size = 0 := fun e => by
        by_cases hv : c.val.size = 0
        · exact hv
        · exact absurd ⟨e, hv⟩ hg
      by_cases hb : 40 < c.val.size
      · rw [chN_big hk hg' hb]
        have e : errV 1 = .iface 127 (.int .i64 1) := rfl
        rw [e]
        clear e
        obtain ⟨k, v, g⟩ := c
        cases g with
        | true => exact absurd (hg' rfl) (by dsimp only at *; omega)
        | false =>
          clear hg hg'
          dsimp only at *
          go_enter Tryz.func100, Tryz.ntmps100
          go_wp2_with (first | (go_at_call 80; (with_reducible apply Calls.mono (hC _ (Own.immOf (φ := LibOk) hO pk_)); rintro e8 w8 ⟨rfl, hx8⟩; replace hO := hO.ext hx8; clear hx8; dsimp only; ((try clear hf); have hf := fa_ hO))) | ((refine sy_ hO ?_); clear hO; intro w9 hO; (try dsimp only [List.set] at hO); ((try clear hf); have hf := fa_ hO)))
          all_goals first | (exfalso; omega) | (go_ret; exact ⟨rfl, hO.toExt⟩) | (exfalso; simp_all; done)
      · rw [chN_ok ⟨hk, hg', by omega⟩, show errV 0 = .nilIface from rfl]
        obtain ⟨k, v, g⟩ := c
        cases g with
        | true =>
          have hvl : v.toList = [] := list_nil.2 (hg' rfl)
          clear hg hg'
          dsimp only at *
          go_enter Tryz.func100, Tryz.ntmps100
          go_wp2_with (first | (go_at_call 80; (with_reducible apply Calls.mono (hC _ (Own.immOf (φ := LibOk) hO pk_)); rintro e8 w8 ⟨rfl, hx8⟩; replace hO := hO.ext hx8; clear hx8; dsimp only; ((try clear hf); have hf := fa_ hO))) | ((refine sy_ hO ?_); clear hO; intro w9 hO; (try dsimp only [List.set] at hO); ((try clear hf); have hf := fa_ hO)))
          all_goals first | (exfalso; omega) | (go_ret; exact ⟨rfl, hO.toExt⟩) | (exfalso; simp_all; done)
        | false =>
          clear hg hg'
          dsimp only at *
          go_enter Tryz.func100, Tryz.ntmps100
          go_wp2_with (first | (go_at_call 80; (with_reducible apply Calls.mono (hC _ (Own.immOf (φ := LibOk) hO pk_)); rintro e8 w8 ⟨rfl, hx8⟩; replace hO := hO.ext hx8; clear hx8; dsimp only; ((try clear hf); have hf := fa_ hO))) | ((refine sy_ hO ?_); clear hO; intro w9 hO; (try dsimp only [List.set] at hO); ((try clear hf); have hf := fa_ hO)))
          all_goals first | (exfalso; omega) | (go_ret; exact ⟨rfl, hO.toExt⟩) | (exfalso; simp_all; done)
  · rw [chN_no hk]
    rw [keyN_no hk] at hC
    have e : errV 3 = .iface 127 (.int .i64 3) := rfl
    rw [e] at hC ⊢
    clear e
    go_enter Tryz.func100, Tryz.ntmps100
    go_wp2_with (first | (go_at_call 80; (with_reducible apply Calls.mono (hC _ (Own.immOf (φ := LibOk) hO pk_)); rintro e8 w8 ⟨rfl, hx8⟩; replace hO := hO.ext hx8; clear hx8; dsimp only; ((try clear hf); have hf := fa_ hO))) | ((refine sy_ hO ?_); clear hO; intro w9 hO; (try dsimp only [List.set] at hO); ((try clear hf); have hf := fa_ hO)))
    all_goals first | (exfalso; omega) | (go_ret; exact ⟨rfl, hO.toExt⟩) | (exfalso; simp_all; done)
end Go.Proofs.YtmknhibaoopjjaaGreatDoor
namespace Go.Proofs.YtmknhibaoopjjaaGreatDoor
open Go.RowKit
set_option maxHeartbeats 2000000 in
set_option maxRecDepth 100000 in
theorem chFault_any (c : Ch) (w : World) (hs : c.key.size ≤ 300) (hv : c.val.size ≤ 1000) : Calls Tryz.prog 66 #[c.v] w fun e w' => e = .returned (.int .i64 (chN c)) ∧ Ext w w' := by
  have hO := Own.start w (fun _ => False)
  have hC := fun w => keyFault_any c.key w hs
  unfold Ch.v
  by_cases hk : KeyOk c.key
  · rw [keyN_yes hk] at hC
    by_cases hg : c.gone = true ∧ c.val.size ≠ 0
    · rw [chN_gone hk hg.1 hg.2]
      have hvl : ¬ c.val.toList = [] := fun e => hg.2 (list_nil.1 e)
      obtain ⟨k, v, g⟩ := c
      obtain ⟨rfl, hg2⟩ := hg
      dsimp only at *
      go_enter Tryz.func66, Tryz.ntmps66
      go_wp2_with (first | (go_at_call 62; (with_reducible apply Calls.mono (hC _); rintro e8 w8 ⟨rfl, rfl⟩; dsimp only)) | ((refine sy_ hO ?_); clear hO; intro w9 hO; (try dsimp only [List.set] at hO); ((try clear hf); have hf := fa_ hO)))
      all_goals first | (exfalso; omega) | (go_ret; exact ⟨rfl, hO.toExt⟩) | (exfalso; simp_all; done)
    · have hg' : c.gone = true → c.val.size = 0 := fun e => by
        by_cases hv : c.val.size = 0
        · exact hv
        · exact absurd ⟨e, hv⟩ hg
      by_cases hb : 40 < c.val.size
      · rw [chN_big hk hg' hb]
        obtain ⟨k, v, g⟩ := c
        cases g with
        | true => exact absurd (hg' rfl) (by dsimp only at *; omega)
        | false =>
          clear hg hg'
          dsimp only at *
          go_enter Tryz.func66, Tryz.ntmps66
          go_wp2_with (first | (go_at_call 62; (with_reducible apply Calls.mono (hC _); rintro e8 w8 ⟨rfl, rfl⟩; dsimp only)) | ((refine sy_ hO ?_); clear hO; intro w9 hO; (try dsimp only [List.set] at hO); ((try clear hf); have hf := fa_ hO)))
          all_goals first | (exfalso; omega) | (go_ret; exact ⟨rfl, hO.toExt⟩) | (exfalso; simp_all; done)
      · rw [chN_ok ⟨hk, hg', by omega⟩]
        obtain ⟨k, v, g⟩ := c
        cases g with
        | true =>
          have hvl : v.toList = [] := list_nil.2 (hg' rfl)
          clear hg hg'
          dsimp only at *
          go_enter Tryz.func66, Tryz.ntmps66
          go_wp2_with (first | (go_at_call 62; (with_reducible apply Calls.mono (hC _); rintro e8 w8 ⟨rfl, rfl⟩; dsimp only)) | ((refine sy_ hO ?_); clear hO; intro w9 hO; (try dsimp only [List.set] at hO); ((try clear hf); have hf := fa_ hO)))
          all_goals first | (exfalso; omega) | (go_ret; exact ⟨rfl, hO.toExt⟩) | (exfalso; simp_all; done)
        | false =>
          clear hg hg'
          dsimp only at *
          go_enter Tryz.func66, Tryz.ntmps66
          go_wp2_with (first | (go_at_call 62; (with_reducible apply Calls.mono (hC _); rintro e8 w8 ⟨rfl, rfl⟩; dsimp only)) | ((refine sy_ hO ?_); clear hO; intro w9 hO; (try dsimp only [List.set] at hO); ((try clear hf); have hf := fa_ hO)))
          all_goals first | (exfalso; omega) | (go_ret; exact ⟨rfl, hO.toExt⟩) | (exfalso; simp_all; done)
  · rw [chN_no hk]
    rw [keyN_no hk] at hC
    go_enter Tryz.func66, Tryz.ntmps66
    go_wp2_with (first | (go_at_call 62; (with_reducible apply Calls.mono (hC _); rintro e8 w8 ⟨rfl, rfl⟩; dsimp only)) | ((refine sy_ hO ?_); clear hO; intro w9 hO; (try dsimp only [List.set] at hO); ((try clear hf); have hf := fa_ hO)))
    all_goals first | (exfalso; omega) | (go_ret; exact ⟨rfl, hO.toExt⟩) | (exfalso; simp_all; done)
/-- A change's bytes. -/
def bytesC (c : Ch) : ByteArray := ⟨#[if c.gone then 1 else 0, UInt8.ofNat c.key.size]⟩ ++ c.key ++ c.val
theorem push_two (a b : Int) : ([a, b] : List Int).foldl (fun r n => r.push (UInt8.ofNat n.toNat)) ByteArray.empty = ⟨#[UInt8.ofNat a.toNat, UInt8.ofNat b.toNat]⟩ := rfl
set_option maxHeartbeats 2000000 in
set_option maxRecDepth 100000 in
theorem bytes_no (c : Ch) (w : World) (h : LibOk w) (hs : c.key.size ≤ 200) (hv : c.val.size ≤ 1000) (hc : ¬ ChOk c) : Calls Tryz.prog 196 #[c.v] w fun e w' => e = .returned (.tuple #[.string ⟨#[]⟩, errV (chN c)]) ∧ Ext w w' := by
  have hO := lib_base h
  have hC := fun w h => chCheck_any c w h (by omega) hv
  have h0 : chN c ≠ 0 := fun e => hc (chN_zero.1 e)
  obtain ⟨m, hm⟩ : ∃ m, chN c = m + 1 := ⟨chN c - 1, by omega⟩
  rw [hm] at hC ⊢
  have e : errV (m + 1) = .iface 127 (.int .i64 ((m + 1 : Nat) : Int)) := rfl
  rw [e] at hC ⊢
  clear e hm h0
  unfold Ch.v at *
  go_enter Tryz.func196, Tryz.ntmps196
  go_wp2_with (first | (go_at_call 100; (with_reducible apply Calls.mono (hC _ (Own.immOf (φ := LibOk) hO pk_)); rintro e8 w8 ⟨rfl, hx8⟩; replace hO := hO.ext hx8; clear hx8; dsimp only; ((try clear hf); have hf := fa_ hO))) | ((refine sy_ hO ?_); clear hO; intro w9 hO; (try dsimp only [List.set] at hO); ((try clear hf); have hf := fa_ hO)))
  go_ret2
  exact ⟨rfl, hO.toExt⟩
set_option maxHeartbeats 2000000 in
set_option maxRecDepth 100000 in
theorem bytes_ok (c : Ch) (w : World) (h : LibOk w) (hs : c.key.size ≤ 200) (hv : c.val.size ≤ 1000) (hc : ChOk c) : Calls Tryz.prog 196 #[c.v] w fun e w' => e = .returned (.tuple #[.string (bytesC c), errV 0]) ∧ Ext w w' := by
  have hks := key_size hc.1
  have hO := lib_base h; have hC := fun w h => chCheck_any c w h (by omega) hv
  rw [chN_ok hc] at hC
  try rw [show errV 0 = .nilIface from rfl] at hC
  obtain ⟨x, hx⟩ : ∃ x, x = (⟨#[if c.gone then 1 else 0, UInt8.ofNat c.key.size]⟩ : ByteArray) := ⟨_, rfl⟩
  have hxs : x.size = 2 := by rw [hx]; rfl
  have hfin : bytesC c = x ++ c.key ++ c.val := by rw [hx]; rfl
  rw [hfin]
  clear hfin
  have HX := Lib.hid hx
  clear hx hc
  unfold Ch.v at *
  obtain ⟨k, v, g⟩ := c
  dsimp only at *
  have hm : ((k.size : Int) % 256) = k.size := by omega
  cases g with
  | true =>
    have HY : (⟨#[UInt8.ofNat (1 : Int).toNat, UInt8.ofNat (k.size : Int).toNat]⟩ : ByteArray) = x := HX.out.symm
    go_enter Tryz.func196, Tryz.ntmps196
    go_wp2_with (first | (go_at_call 100; (with_reducible apply Calls.mono (hC _ (Own.immOf (φ := LibOk) hO pk_)); rintro e8 w8 ⟨rfl, hx8⟩; replace hO := hO.ext hx8; clear hx8; dsimp only; ((try clear hf); have hf := fa_ hO))) | ((refine wpList_bytes_own4 hO (r := Var _ [.int .u8 1, .int .u8 (k.size : Int)] 5) pk_ rfl (.tmp 18) 174 9 5 rfl Tryz.underlying174 Tryz.intU8 Tryz.underlying9 _ 0 2 2 [1, (k.size : Int)] rfl rfl (fun j u hj => Var.at (t := 5) (hO.factOf (r := Var _ [.int .u8 1, .int .u8 (k.size : Int)] 5) pk_) j u hj) ?_; rw [push_two]); rw [HY]) | ((refine sy_ hO ?_); clear hO; intro w9 hO; (try dsimp only [List.set] at hO); ((try clear hf); have hf := fa_ hO)))
    go_ret2
    exact ⟨rfl, hO.toExt⟩
  | false =>
    have HY : (⟨#[UInt8.ofNat (0 : Int).toNat, UInt8.ofNat (k.size : Int).toNat]⟩ : ByteArray) = x := HX.out.symm
    go_enter Tryz.func196, Tryz.ntmps196
    go_wp2_with (first | (go_at_call 100; (with_reducible apply Calls.mono (hC _ (Own.immOf (φ := LibOk) hO pk_)); rintro e8 w8 ⟨rfl, hx8⟩; replace hO := hO.ext hx8; clear hx8; dsimp only; ((try clear hf); have hf := fa_ hO))) | ((refine wpList_bytes_own4 hO (r := Var _ [.int .u8 0, .int .u8 (k.size : Int)] 5) pk_ rfl (.tmp 18) 174 9 5 rfl Tryz.underlying174 Tryz.intU8 Tryz.underlying9 _ 0 2 2 [0, (k.size : Int)] rfl rfl (fun j u hj => Var.at (t := 5) (hO.factOf (r := Var _ [.int .u8 0, .int .u8 (k.size : Int)] 5) pk_) j u hj) ?_; rw [push_two]); rw [HY]) | ((refine sy_ hO ?_); clear hO; intro w9 hO; (try dsimp only [List.set] at hO); ((try clear hf); have hf := fa_ hO)))
    go_ret2
    exact ⟨rfl, hO.toExt⟩

end Go.Proofs.YtmknhibaoopjjaaGreatDoor
