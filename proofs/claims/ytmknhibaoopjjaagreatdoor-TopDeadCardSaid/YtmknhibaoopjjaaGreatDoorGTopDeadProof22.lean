/- Texts Row4, Row6, KeyC, Row7, Row5, Words2, Row8, Row9, TopRow, RowSays, Qt, Change, Change2 of this claim, laid together. -/
import Derived.Test.YtmknhibaoopjjaaGreatDoorGTopDeadProof19
import Derived.WalkSpells
import Derived.WalkLawsBesides
import Derived.Test.YtmknhibaoopjjaaGreatDoorGTopDeadProof3
import Derived.Test.YtmknhibaoopjjaaGreatDoorGTopDeadProof7
set_option linter.unusedVariables false
set_option linter.unusedSimpArgs false
namespace Go.Proofs.YtmknhibaoopjjaaGreatDoor
open Go.RowKit
theorem LibOk.up {w w' : World} (h : LibOk w) (hb : ∀ b, b < w.heap.size → w'.heap[b]? = w.heap[b]?) : LibOk w' := by
  have up : ∀ {a v}, w.cell? a = some v → w'.cell? a = some v := fun {a v} hc => by
    have hl : a.block < w.heap.size := by
      unfold World.cell? at hc
      split at hc
      · rename_i he; exact (Array.getElem?_eq_some_iff.1 he).1
      · cases hc
    rw [World.cell?_of_block (w := w) (hb _ hl)]; exact hc
  exact ⟨h.max.imp fun _ h => up h, h.syn.imp fun _ h => h.imp fun _ h => up h, h.rng.imp fun _ h => h.imp fun _ h => up h, tab_up h.tab hb⟩
theorem lib_base {w : World} (h : LibOk w) : Own (fun _ => False) w w [.imm LibOk] := Own.base w _ fun w' hw' => h.up hw'
/-- What stands in a row: two numbers and a text. -/
def rowS (a b : Nat) (d : ByteArray) : ByteArray := itoaB a ++ sp ++ (itoaB b ++ sp ++ d)
theorem rowS_eq (a b : Nat) (d : ByteArray) : (((itoaB a ++ ⟨#[32]⟩) ++ itoaB b) ++ ⟨#[32]⟩) ++ d = rowS a b d := ba_ext (by
  unfold rowS
  rw [app_data, app_data, app_data, app_data, app_data, app_data, app_data, app_data]; simp only [List.append_assoc]; rfl)
theorem rowS_size (a b : Nat) (d : ByteArray) : (rowS a b d).size = (itoaB a).size + (itoaB b).size + 2 + d.size := by
  unfold rowS
  rw [ByteArray.size_append, ByteArray.size_append, ByteArray.size_append, ByteArray.size_append]
  show (itoaB a).size + 1 + ((itoaB b).size + 1 + d.size) = _
  omega
set_option maxHeartbeats 2000000 in
set_option maxRecDepth 100000 in
theorem queueText_ok (a b : Nat) (d : ByteArray) (w : World) (h : LibOk w) (ha : a ≤ 999999) (hb1 : 1 ≤ b) (hb2 : b ≤ 9) (hd : d.size = 0 ∨ NameOk d) (hds : d.size ≤ 50) :
    Calls Tryz.prog 181 #[.agg #[.int .i64 a, .int .i64 b, .string d]] w fun e w' => e = .returned (.tuple #[.string (rowS a b d), .nilIface]) ∧ Ext w w' := by
  have hO := lib_base h
  have hs1 := itoaB_size 6 a (by omega)
  have hs2 := itoaB_size 6 b (by omega)
  have HI1 := fun w (h : LibOk w) => itoa_any a w h (by omega) (by omega)
  have HI2 := fun w (h : LibOk w) => itoa_any b w h (by omega) (by omega)
  have hfin := rowS_eq a b d
  generalize rowS a b d = fin at *
  generalize itoaB (a : Int) = s1 at *
  generalize itoaB (b : Int) = s2 at *
  have HF := Lib.hid hfin
  clear hfin
  have hdl : d.toList.length = d.size := by rw [ByteArray.toList_eq]; rfl
  by_cases hd0 : d.size = 0
  · have hd1 : d.toList = [] := List.length_eq_zero_iff.1 (by omega)
    go_enter Tryz.func181, Tryz.ntmps181
    go_wp2_with (first | ((refine sy_ hO ?_); clear hO; intro w9 hO; (try dsimp only [List.set] at hO); ((try clear hf); have hf := fa_ hO)))
    all_goals (try (exfalso; omega))
    (refine wp_region_run (fun _ => True) (fun _ _ _ _ => trivial) trivial ((0, 0) :: (1, 1) :: (3, 2) :: (0, 3) :: (0, 4) :: (1, 5) :: (3, 6) :: (0, 7) :: (0, 8) :: (0, 9) :: (1, 10) :: (0, 11) :: (0, 12) :: (0, 13) :: []) (by kernel_rfl) (by kernel_rfl) rfl (fun _ _ d _ _ h => by cases d <;> exact h) ?_; intro w9 hx9; replace hO := hO.ext hx9; clear hx9; ((try clear hf); have hf := fa_ hO); (repeat (first | (apply inRun_p _ rfl rfl rfl; focus (intro w8 K8 hK8; (repeat (first | go_skip | go_guarded | go_step)); exact hK8)) | (apply inRun_l _ rfl rfl rfl; focus (intro w8 hx8 K8 hK8; have hO := hO.ext hx8; ((try clear hf); have hf := fa_ hO); skip; (repeat (first | go_skip | go_guarded | go_step)); exact hK8)) | (apply inRun_q _ rfl; (focus (intro w8 hx8 K8 hK8; have hO := hO.ext hx8; ((try clear hf); have hf := fa_ hO); (repeat (first | go_skip | go_guarded | go_step | (go_at_call 193; (with_reducible apply Calls.mono (HI1 _ (Own.immOf (φ := LibOk) hO pk_)); rintro e7 w7 ⟨rfl, hx7⟩; dsimp only)) | (go_at_call 193; (with_reducible apply Calls.mono (HI2 _ (Own.immOf (φ := LibOk) hO pk_)); rintro e7 w7 ⟨rfl, hx7⟩; dsimp only)))); (first | exact xt_ | exact hK8 _ xt_))); (focus (exact rfl)); intro w8 hx8; replace hO := hO.ext hx8; clear hx8; ((try clear hf); have hf := fa_ hO))))) -- M1
    refine inRun_nil ?_
    go_wp2_with fail
    go_ret2
    exact ⟨by rw [HF.out]; rfl, hO.toExt⟩
  · have hd1 : ¬ d.toList = [] := fun e => hd0 (by rw [← hdl, e]; rfl)
    have HN1 := fun w => name_any d w (by omega)
    rw [decide_eq_true (hd.resolve_left hd0)] at HN1
    go_enter Tryz.func181, Tryz.ntmps181
    go_wp2_with (first | (go_at_call 145; (with_reducible apply Calls.mono (HN1 _); rintro e8 w8 ⟨rfl, rfl⟩; dsimp only)) | ((refine sy_ hO ?_); clear hO; intro w9 hO; (try dsimp only [List.set] at hO); ((try clear hf); have hf := fa_ hO)))
    all_goals (try (exfalso; omega))
    (refine wp_region_run (fun _ => True) (fun _ _ _ _ => trivial) trivial ((0, 0) :: (1, 1) :: (3, 2) :: (0, 3) :: (0, 4) :: (1, 5) :: (3, 6) :: (0, 7) :: (0, 8) :: (0, 9) :: (1, 10) :: (0, 11) :: (0, 12) :: (0, 13) :: []) (by kernel_rfl) (by kernel_rfl) rfl (fun _ _ d _ _ h => by cases d <;> exact h) ?_; intro w9 hx9; replace hO := hO.ext hx9; clear hx9; ((try clear hf); have hf := fa_ hO); (repeat (first | (apply inRun_p _ rfl rfl rfl; focus (intro w8 K8 hK8; (repeat (first | go_skip | go_guarded | go_step)); exact hK8)) | (apply inRun_l _ rfl rfl rfl; focus (intro w8 hx8 K8 hK8; have hO := hO.ext hx8; ((try clear hf); have hf := fa_ hO); skip; (repeat (first | go_skip | go_guarded | go_step)); exact hK8)) | (apply inRun_q _ rfl; (focus (intro w8 hx8 K8 hK8; have hO := hO.ext hx8; ((try clear hf); have hf := fa_ hO); (repeat (first | go_skip | go_guarded | go_step | (go_at_call 193; (with_reducible apply Calls.mono (HI1 _ (Own.immOf (φ := LibOk) hO pk_)); rintro e7 w7 ⟨rfl, hx7⟩; dsimp only)) | (go_at_call 193; (with_reducible apply Calls.mono (HI2 _ (Own.immOf (φ := LibOk) hO pk_)); rintro e7 w7 ⟨rfl, hx7⟩; dsimp only)))); (first | exact xt_ | exact hK8 _ xt_))); (focus (exact rfl)); intro w8 hx8; replace hO := hO.ext hx8; clear hx8; ((try clear hf); have hf := fa_ hO))))) -- M1
    refine inRun_nil ?_
    go_wp2_with fail
    go_ret2
    exact ⟨by rw [HF.out]; rfl, hO.toExt⟩
set_option maxHeartbeats 2000000 in
set_option maxRecDepth 100000 in
theorem queueText_bound (a b : Int) (d : ByteArray) (w : World) (h : LibOk w) (hbad : a < 0 ∨ 999999 < a ∨ b < 1 ∨ 9 < b) :
    Calls Tryz.prog 181 #[.agg #[.int .i64 a, .int .i64 b, .string d]] w fun e w' => e = .returned (.tuple #[.string ⟨#[]⟩, .iface 127 (.int .i64 1)]) ∧ Ext w w' := by
  have hO := lib_base h
  go_enter Tryz.func181, Tryz.ntmps181
  go_wp2_with (first | ((refine sy_ hO ?_); clear hO; intro w9 hO; (try dsimp only [List.set] at hO); ((try clear hf); have hf := fa_ hO)))
  all_goals first | (exfalso; omega) | (go_ret2; exact ⟨rfl, hO.toExt⟩)
set_option maxHeartbeats 2000000 in
set_option maxRecDepth 100000 in
theorem queueText_shape (a b : Int) (d : ByteArray) (w : World) (h : LibOk w) (hok : ¬ (a < 0 ∨ 999999 < a ∨ b < 1 ∨ 9 < b)) (hd : ¬ (d.size = 0 ∨ NameOk d)) (hds : d.size ≤ 50) :
    Calls Tryz.prog 181 #[.agg #[.int .i64 a, .int .i64 b, .string d]] w fun e w' => e = .returned (.tuple #[.string ⟨#[]⟩, .iface 127 (.int .i64 3)]) ∧ Ext w w' := by
  have hO := lib_base h
  have hdl : d.toList.length = d.size := by rw [ByteArray.toList_eq]; rfl
  have hd1 : ¬ d.toList = [] := fun e => hd (.inl (by rw [← hdl, e]; rfl))
  have HN1 := fun w => name_any d w (by omega)
  rw [decide_eq_false (fun h => hd (.inr h))] at HN1
  clear hd
  have k1 : 0 ≤ a := by omega
  have k2 : a ≤ 999999 := by omega
  have k3 : 1 ≤ b := by omega
  have k4 : b ≤ 9 := by omega
  clear hok
  go_enter Tryz.func181, Tryz.ntmps181
  go_wp2_with (first | (go_at_call 145; (with_reducible apply Calls.mono (HN1 _); rintro e8 w8 ⟨rfl, rfl⟩; dsimp only)) | ((refine sy_ hO ?_); clear hO; intro w9 hO; (try dsimp only [List.set] at hO); ((try clear hf); have hf := fa_ hO)))
  all_goals (try (exfalso; omega))
  all_goals first | (go_ret2; exact ⟨rfl, hO.toExt⟩) | (exfalso; simp_all; done)
set_option maxHeartbeats 2000000 in
set_option maxRecDepth 100000 in
theorem messageText_ok (n : Int) (a b : Nat) (d : ByteArray) (w : World) (h : LibOk w) (ha : a ≤ 9) (hb2 : b ≤ 2000000) (hds : d.size ≤ 28) :
    Calls Tryz.prog 182 #[.agg #[.int .i64 n, .int .i64 a, .int .i64 b, .string d]] w fun e w' => e = .returned (.tuple #[.string (rowS a b d), .nilIface]) ∧ Ext w w' := by
  have hO := lib_base h
  have hs1 := itoaB_size 6 a (by omega)
  have hs2 := itoaB_size 6 b (by omega)
  have HI1 := fun w (h : LibOk w) => itoa_any a w h (by omega) (by omega)
  have HI2 := fun w (h : LibOk w) => itoa_any b w h (by omega) (by omega)
  have hfin := rowS_eq a b d
  generalize rowS a b d = fin at *
  generalize itoaB (a : Int) = s1 at *
  generalize itoaB (b : Int) = s2 at *
  have HF := Lib.hid hfin
  clear hfin
  go_enter Tryz.func182, Tryz.ntmps182
  go_wp2_with (first | ((refine sy_ hO ?_); clear hO; intro w9 hO; (try dsimp only [List.set] at hO); ((try clear hf); have hf := fa_ hO)))
  all_goals (try (exfalso; omega))
  (refine wp_region_run (fun _ => True) (fun _ _ _ _ => trivial) trivial ((0, 0) :: (1, 1) :: (3, 2) :: (0, 3) :: (0, 4) :: (1, 5) :: (3, 6) :: (0, 7) :: (0, 8) :: (0, 9) :: (1, 10) :: (0, 11) :: (0, 12) :: (0, 13) :: []) (by kernel_rfl) (by kernel_rfl) rfl (fun _ _ d _ _ h => by cases d <;> exact h) ?_; intro w9 hx9; replace hO := hO.ext hx9; clear hx9; ((try clear hf); have hf := fa_ hO); (repeat (first | (apply inRun_p _ rfl rfl rfl; focus (intro w8 K8 hK8; (repeat (first | go_skip | go_guarded | go_step)); exact hK8)) | (apply inRun_l _ rfl rfl rfl; focus (intro w8 hx8 K8 hK8; have hO := hO.ext hx8; ((try clear hf); have hf := fa_ hO); skip; (repeat (first | go_skip | go_guarded | go_step)); exact hK8)) | (apply inRun_q _ rfl; (focus (intro w8 hx8 K8 hK8; have hO := hO.ext hx8; ((try clear hf); have hf := fa_ hO); (repeat (first | go_skip | go_guarded | go_step | (go_at_call 193; (with_reducible apply Calls.mono (HI1 _ (Own.immOf (φ := LibOk) hO pk_)); rintro e7 w7 ⟨rfl, hx7⟩; dsimp only)) | (go_at_call 193; (with_reducible apply Calls.mono (HI2 _ (Own.immOf (φ := LibOk) hO pk_)); rintro e7 w7 ⟨rfl, hx7⟩; dsimp only)))); (first | exact xt_ | exact hK8 _ xt_))); (focus (exact rfl)); intro w8 hx8; replace hO := hO.ext hx8; clear hx8; ((try clear hf); have hf := fa_ hO)))))
  refine inRun_nil ?_
  go_wp2_with fail
  go_ret2
  exact ⟨by rw [HF.out]; rfl, hO.toExt⟩
set_option maxHeartbeats 2000000 in
set_option maxRecDepth 100000 in
theorem messageText_bound (n a b : Int) (d : ByteArray) (w : World) (h : LibOk w) (hbad : a < 0 ∨ 9 < a ∨ b < 0 ∨ 2000000 < b ∨ 28 < d.size) :
    Calls Tryz.prog 182 #[.agg #[.int .i64 n, .int .i64 a, .int .i64 b, .string d]] w fun e w' => e = .returned (.tuple #[.string ⟨#[]⟩, .iface 127 (.int .i64 1)]) ∧ Ext w w' := by
  have hO := lib_base h
  go_enter Tryz.func182, Tryz.ntmps182
  go_wp2_with (first | ((refine sy_ hO ?_); clear hO; intro w9 hO; (try dsimp only [List.set] at hO); ((try clear hf); have hf := fa_ hO)))
  all_goals first | (exfalso; omega) | (go_ret2; exact ⟨rfl, hO.toExt⟩)
end Go.Proofs.YtmknhibaoopjjaaGreatDoor
namespace Go.Proofs.YtmknhibaoopjjaaGreatDoor
open Go.RowKit
end Go.Proofs.YtmknhibaoopjjaaGreatDoor
namespace Go.Proofs.YtmknhibaoopjjaaGreatDoor
open Go.RowKit
theorem retS {a b : ByteArray} (h : a = b) : Ending.returned (.string a) = .returned (.string b) := by rw [h]
set_option maxHeartbeats 1000000 in
theorem queue_any (a : ByteArray) (w : World) (ha : a.size ≤ 1000) : Calls Tryz.prog 174 #[.string a] w fun e w' => e = .returned (.string (queB a)) ∧ w' = w := by
  go_enter Tryz.func174, Tryz.ntmps174
  go_wp2
  go_ret
  exact ⟨retS (ba_ext (by unfold queB; rw [app_data, app_data, app_data]; rfl)), rfl⟩
set_option maxHeartbeats 1000000 in
theorem message_any (a : ByteArray) (n : Int) (w : World) (ha : a.size ≤ 1000) (h : LibOk w) (hn : n ≤ 9223372036854775807) : Calls Tryz.prog 129 #[.string a, .int .i64 n] w fun e w' => e = .returned (.string (msgB a n.toNat)) ∧ Ext w w' := by
  have hz := six_size n.toNat
  have key : ∀ w, LibOk w → ∀ z : Int, z = (n.toNat : Int) → Calls Tryz.prog 147 #[.int .i64 z] w fun e w' => e = .returned (.string (six n.toNat)) ∧ Ext w w' := fun w h z hz => by
    rw [hz]; exact six_any n.toNat w h (by omega)
  have fin : ((⟨#[109, 47]⟩ ++ a) ++ ⟨#[47]⟩) ++ six n.toNat = msgB a n.toNat := ba_ext (by unfold msgB; rw [app_data, app_data, app_data, app_data, app_data, app_data, app_data]; simp only [List.append_assoc]; rfl)
  generalize six n.toNat = y at *
  have k1 := fun w h => key w h (max n 0) (by omega)
  go_enter Tryz.func129, Tryz.ntmps129
  go_wp2_with (go_at_call 147; with_reducible apply Calls.mono (k1 _ h); rintro e8 w8 ⟨rfl, hx⟩; dsimp only)
  all_goals first | (exfalso; omega) | (go_ret; exact ⟨rfl, hx⟩)
def loB (a : ByteArray) : ByteArray := mB ++ slash ++ a ++ slash
def hiB (a : ByteArray) : ByteArray := mB ++ slash ++ a ++ ⟨#[48]⟩
set_option maxHeartbeats 1000000 in
theorem messages_any (a : ByteArray) (w : World) (ha : a.size ≤ 1000) : Calls Tryz.prog 132 #[.string a] w fun e w' => e = .returned (.agg #[.string (loB a), .string (hiB a)]) ∧ Ext w w' := by
  have e1 : (⟨#[109, 47]⟩ ++ a) ++ ⟨#[47]⟩ = loB a := ba_ext (by unfold loB; rw [app_data, app_data, app_data, app_data, app_data]; rfl)
  have e2 : (⟨#[109, 47]⟩ ++ a) ++ ⟨#[48]⟩ = hiB a := ba_ext (by unfold hiB; rw [app_data, app_data, app_data, app_data, app_data]; rfl)
  have E1 := Lib.hid e1
  have E2 := Lib.hid e2
  clear e1 e2
  go_enter Tryz.func132, Tryz.ntmps132
  go_wp2
  refine bodyPost_ret (v := .agg #[.string (loB a), .string (hiB a)]) ?_ rfl ⟨rfl, ?_⟩
  · simp [results, Tryz.results132, go_sem, ← E1.out, ← E2.out]
  · exact (Ext.refl _).alloc _
def belowB (k hi : ByteArray) : Bool := hi.toList.isEmpty || slt k hi
def hasB (lo hi k : ByteArray) : Bool := !slt k lo && belowB k hi
set_option maxHeartbeats 400000 in
theorem belowB_any (k hi : ByteArray) (w : World) :
    Calls Tryz.prog 139 #[.string k, .string hi] w fun e w' => e = .returned (.bool (belowB k hi)) ∧ w' = w := by
  go_enter Tryz.func139, Tryz.ntmps139
  go_wp2
  all_goals (go_ret; refine ⟨?_, rfl⟩; simp [belowB, slt, *])
set_option maxHeartbeats 400000 in
theorem hasB_any (lo hi k : ByteArray) (w : World) :
    Calls Tryz.prog 69 #[.agg #[.string lo, .string hi], .string k] w fun e w' => e = .returned (.bool (hasB lo hi k)) ∧ Ext w w' := by
  go_enter Tryz.func69, Tryz.ntmps69
  go_wp2_with (go_at_call 139; refine (belowB_any _ _ _).mono ?_; rintro e w' ⟨rfl, rfl⟩)
  all_goals (go_ret; refine ⟨?_, (Ext.refl _).alloc _⟩; simp [hasB, slt, *])
end Go.Proofs.YtmknhibaoopjjaaGreatDoor
namespace Go.Proofs.YtmknhibaoopjjaaGreatDoor
open Go.RowKit
end Go.Proofs.YtmknhibaoopjjaaGreatDoor
namespace Go.Proofs.YtmknhibaoopjjaaGreatDoor
open Go.RowKit
theorem split3 (x y z : ByteArray) (hx : (32 : UInt8) ∉ x.data.toList) (hy : (32 : UInt8) ∉ y.data.toList) (hz : (32 : UInt8) ∉ z.data.toList) (w : World) (h : LibOk w) (hs : (x ++ sp ++ (y ++ sp ++ z)).size ≤ 1000) :
    Calls Tryz.prog 212 #[.string (x ++ sp ++ (y ++ sp ++ z)), .string ⟨#[32]⟩] w fun e w' => e = .returned (.slice (some ⟨w.heap.size, 0, none⟩) 3 3) ∧ w' = w.alloc (.cells [Value.string x, .string y, .string z].toArray 9) := by
  obtain ⟨m, hm⟩ := h.max
  have hc : Lib.countB (x ++ sp ++ (y ++ sp ++ z)) sp = 2 := by
    rw [count_hit' _ _ hx, count_hit' _ _ hy, Lib.countB_miss _ _ (indexB_miss z hz)]
  have h1 := Tryz.strings_Split (x ++ sp ++ (y ++ sp ++ z)) sp m w (by omega) hm (by decide)
  rw [hc, split_hit _ _ _ hx, split_hit _ _ _ hy] at h1
  exact h1
theorem splitN3 (x y z : ByteArray) (hx : (32 : UInt8) ∉ x.data.toList) (hy : (32 : UInt8) ∉ y.data.toList) (w : World) (h : LibOk w) (hs : (x ++ sp ++ (y ++ sp ++ z)).size ≤ 1000) :
    Calls Tryz.prog 183 #[.string (x ++ sp ++ (y ++ sp ++ z)), .string ⟨#[32]⟩, .int .i64 3] w fun e w' => e = .returned (.slice (some ⟨w.heap.size, 0, none⟩) 3 3) ∧ w' = w.alloc (.cells [Value.string x, .string y, .string z].toArray 9) := by
  obtain ⟨m, hm⟩ := h.max
  have h1 := Tryz.strings_SplitN (x ++ sp ++ (y ++ sp ++ z)) sp 3 m w (by omega) hm (by decide) (by decide) (by decide)
  have hsz : (x ++ sp ++ (y ++ sp ++ z)).size = x.size + 1 + (y.size + 1 + z.size) := by
    rw [ByteArray.size_append, ByteArray.size_append, ByteArray.size_append, ByteArray.size_append]; rfl
  rw [show min 3 ((x ++ sp ++ (y ++ sp ++ z)).size + 1) = 3 from by rw [hsz]; omega, show 3 - 1 = 1 + 1 from rfl, split_hit _ _ _ hx, split_hit _ _ _ hy, Lib.splitB_zero] at h1
  exact h1
set_option maxHeartbeats 2000000 in
set_option maxRecDepth 100000 in
theorem parseQueue_ok (a b : Nat) (d : ByteArray) (w : World) (h : LibOk w) (ha : a ≤ 999999) (hb1 : 1 ≤ b) (hb2 : b ≤ 9) (hd : d.size = 0 ∨ NameOk d) (hds : d.size ≤ 50) :
    Calls Tryz.prog 175 #[.string (rowS a b d)] w fun e w' => e = .returned (.tuple #[.agg #[.int .i64 a, .int .i64 b, .string d], .nilIface]) ∧ Ext w w' := by
  have hO := lib_base h
  have hs1 := itoaB_size 6 a (by omega)
  have hs2 := itoaB_size 6 b (by omega)
  have hsz := rowS_size a b d
  have hnz : (32 : UInt8) ∉ d.data.toList := by
    rcases hd with hd | hd
    · intro hm
      have : d.data.toList.length = 0 := by simpa using hd
      rw [List.length_eq_zero_iff.1 this] at hm
      cases hm
    · exact name_nosp hd
  have HSP := fun w h => split3 (itoaB a) (itoaB b) d (itoaB_nosp a) (itoaB_nosp b) hnz w h (by show (rowS a b d).size ≤ 1000; omega)
  have HA1 := fun w h => number_ok a 999999 w h (by omega) (by omega)
  have HA2 := fun w h => number_ok b 9 w h (by omega) (by omega)
  change ∀ w, LibOk w → Calls Tryz.prog 212 #[.string (rowS a b d), .string ⟨#[32]⟩] w _ at HSP
  generalize rowS a b d = fin at *
  generalize itoaB (a : Int) = s1 at *
  generalize itoaB (b : Int) = s2 at *
  have hdl : d.toList.length = d.size := by rw [ByteArray.toList_eq]; rfl
  by_cases hd0 : d.size = 0
  · have hd1 : d.toList = [] := List.length_eq_zero_iff.1 (by omega)
    go_enter Tryz.func175, Tryz.ntmps175
    go_wp2_with (first | (go_at_call 212; (with_reducible apply Calls.mono (HSP _ (Own.immOf (φ := LibOk) hO pk_)); rintro e8 w8 ⟨rfl, rfl⟩; dsimp only)) | (go_at_call 184; (with_reducible apply Calls.mono (HA1 _ (Own.immOf (φ := LibOk) hO pk_)); rintro e8 w8 ⟨rfl, hx8⟩; replace hO := hO.ext hx8; clear hx8; dsimp only; ((try clear hf); have hf := fa_ hO))) | (go_at_call 184; (with_reducible apply Calls.mono (HA2 _ (Own.immOf (φ := LibOk) hO pk_)); rintro e8 w8 ⟨rfl, hx8⟩; replace hO := hO.ext hx8; clear hx8; dsimp only; ((try clear hf); have hf := fa_ hO))) | ((refine sy_ hO ?_); clear hO; intro w9 hO; (try dsimp only [List.set] at hO); ((try clear hf); have hf := fa_ hO))) -- M1
    refine bodyPost_run rfl fun K hK => ?_; simp [results, Tryz.results175, go_sem, hf]; exact hK _ ⟨rfl, hO.toExt⟩
  · have hd1 : ¬ d.toList = [] := fun e => hd0 (by rw [← hdl, e]; rfl)
    have HN1 := fun w => name_any d w (by omega)
    rw [decide_eq_true (hd.resolve_left hd0)] at HN1
    go_enter Tryz.func175, Tryz.ntmps175
    go_wp2_with (first | (go_at_call 212; (with_reducible apply Calls.mono (HSP _ (Own.immOf (φ := LibOk) hO pk_)); rintro e8 w8 ⟨rfl, rfl⟩; dsimp only)) | (go_at_call 184; (with_reducible apply Calls.mono (HA1 _ (Own.immOf (φ := LibOk) hO pk_)); rintro e8 w8 ⟨rfl, hx8⟩; replace hO := hO.ext hx8; clear hx8; dsimp only; ((try clear hf); have hf := fa_ hO))) | (go_at_call 184; (with_reducible apply Calls.mono (HA2 _ (Own.immOf (φ := LibOk) hO pk_)); rintro e8 w8 ⟨rfl, hx8⟩; replace hO := hO.ext hx8; clear hx8; dsimp only; ((try clear hf); have hf := fa_ hO))) | (go_at_call 145; (with_reducible apply Calls.mono (HN1 _); rintro e8 w8 ⟨rfl, rfl⟩; dsimp only)) | ((refine sy_ hO ?_); clear hO; intro w9 hO; (try dsimp only [List.set] at hO); ((try clear hf); have hf := fa_ hO)))
    all_goals first | (refine bodyPost_run rfl fun K hK => ?_; simp [results, Tryz.results175, go_sem, hf]; exact hK _ ⟨rfl, hO.toExt⟩; done) | (exfalso; simp_all; done)
set_option maxHeartbeats 2000000 in
set_option maxRecDepth 100000 in
theorem parseMessage_ok (n : Int) (a b : Nat) (d : ByteArray) (w : World) (h : LibOk w) (ha : a ≤ 9) (hb2 : b ≤ 2000000) (hds : d.size ≤ 28) :
    Calls Tryz.prog 133 #[.int .i64 n, .string (rowS a b d)] w fun e w' => e = .returned (.tuple #[.agg #[.int .i64 n, .int .i64 a, .int .i64 b, .string d], .nilIface]) ∧ Ext w w' := by
  have hO := lib_base h
  have hs1 := itoaB_size 6 a (by omega)
  have hs2 := itoaB_size 6 b (by omega)
  have hsz := rowS_size a b d
  have HSP := fun w h => splitN3 (itoaB a) (itoaB b) d (itoaB_nosp a) (itoaB_nosp b) w h (by show (rowS a b d).size ≤ 1000; omega)
  have HA1 := fun w h => number_ok a 9 w h (by omega) (by omega)
  have HA2 := fun w h => number_ok b 2000000 w h (by omega) (by omega)
  change ∀ w, LibOk w → Calls Tryz.prog 183 #[.string (rowS a b d), .string ⟨#[32]⟩, .int .i64 3] w _ at HSP
  generalize rowS a b d = fin at *
  generalize itoaB (a : Int) = s1 at *
  generalize itoaB (b : Int) = s2 at *
  go_enter Tryz.func133, Tryz.ntmps133
  go_wp2_with (first | (go_at_call 183; (with_reducible apply Calls.mono (HSP _ (Own.immOf (φ := LibOk) hO pk_)); rintro e8 w8 ⟨rfl, rfl⟩; dsimp only)) | (go_at_call 184; (with_reducible apply Calls.mono (HA1 _ (Own.immOf (φ := LibOk) hO pk_)); rintro e8 w8 ⟨rfl, hx8⟩; replace hO := hO.ext hx8; clear hx8; dsimp only; ((try clear hf); have hf := fa_ hO))) | (go_at_call 184; (with_reducible apply Calls.mono (HA2 _ (Own.immOf (φ := LibOk) hO pk_)); rintro e8 w8 ⟨rfl, hx8⟩; replace hO := hO.ext hx8; clear hx8; dsimp only; ((try clear hf); have hf := fa_ hO))) | ((refine sy_ hO ?_); clear hO; intro w9 hO; (try dsimp only [List.set] at hO); ((try clear hf); have hf := fa_ hO)))
  all_goals first | (refine bodyPost_run rfl fun K hK => ?_; simp [results, Tryz.results133, go_sem, hf]; exact hK _ ⟨rfl, hO.toExt⟩; done) | (exfalso; omega) | (exfalso; simp_all; done)
end Go.Proofs.YtmknhibaoopjjaaGreatDoor
namespace Go.Proofs.YtmknhibaoopjjaaGreatDoor
open Go.RowKit
theorem first_sp (s : ByteArray) : (32 : UInt8) ∉ s.data.toList ∨ ∃ x r : ByteArray, s = x ++ sp ++ r ∧ (32 : UInt8) ∉ x.data.toList ∧ r.size < s.size := by
  by_cases h : (32 : UInt8) ∈ s.data.toList
  · right
    obtain ⟨a, b, e, h1⟩ := List.eq_append_cons_of_mem h
    refine ⟨⟨a.toArray⟩, ⟨b.toArray⟩, ba_ext (by rw [app_data, app_data, e, List.append_assoc]; rfl), by simpa using h1, ?_⟩
    have : s.data.toList.length = s.size := by simp
    show b.toArray.size < s.size
    rw [← this, e]; simp; omega
  · exact .inl h
/-- All words of it. -/
def wordsB (s : ByteArray) : List ByteArray := Lib.splitB sp 0 (Lib.countB s sp) s
theorem split_miss (k : Nat) (s : ByteArray) (h : (32 : UInt8) ∉ s.data.toList) : Lib.splitB sp 0 k s = [s] := Lib.splitB_miss _ _ _ _ (indexB_miss s h)
theorem split_upto : ∀ (m : Nat) (s : ByteArray) (k : Nat), s.size ≤ m → (Lib.countB s sp ≤ k → Lib.splitB sp 0 k s = wordsB s) ∧ (k ≤ Lib.countB s sp → (Lib.splitB sp 0 k s).length = k + 1) := by
  intro m
  induction m with
  | zero =>
    intro s k hm
    rcases first_sp s with h | ⟨x, r, rfl, hx, hr⟩
    · refine ⟨fun _ => by unfold wordsB; rw [split_miss _ _ h, split_miss _ _ h], fun hk => ?_⟩
      rw [Lib.countB_miss _ _ (indexB_miss s h)] at hk
      rw [split_miss _ _ h, List.length_singleton]; omega
    · omega
  | succ m ih =>
    intro s k hm
    rcases first_sp s with h | ⟨x, r, rfl, hx, hr⟩
    · refine ⟨fun _ => by unfold wordsB; rw [split_miss _ _ h, split_miss _ _ h], fun hk => ?_⟩
      rw [Lib.countB_miss _ _ (indexB_miss s h)] at hk
      rw [split_miss _ _ h, List.length_singleton]; omega
    · have ih1 := fun k => ih r k (by omega)
      unfold wordsB
      rw [count_hit' _ _ hx]
      cases k with
      | zero => exact ⟨fun h => by omega, fun _ => by rw [Lib.splitB_zero]; rfl⟩
      | succ k =>
        rw [split_hit _ _ _ hx, Nat.add_comm 1, split_hit _ _ _ hx]
        exact ⟨fun h => by rw [(ih1 k).1 (by omega)]; rfl, fun h => by rw [List.length_cons, (ih1 k).2 (by omega)]⟩
theorem split_all (s : ByteArray) (k : Nat) (h : Lib.countB s sp ≤ k) : Lib.splitB sp 0 k s = wordsB s := (split_upto _ s k (Nat.le_refl _)).1 h
theorem split_many (s : ByteArray) (k : Nat) (h : k ≤ Lib.countB s sp) : (Lib.splitB sp 0 k s).length = k + 1 := (split_upto _ s k (Nat.le_refl _)).2 h
/-- Three words, where all are cut. -/
theorem wordsB_three (s x y z : ByteArray) (h : wordsB s = [x, y, z]) : s = x ++ sp ++ (y ++ sp ++ z) ∧ (32 : UInt8) ∉ x.data.toList ∧ (32 : UInt8) ∉ y.data.toList ∧ (32 : UInt8) ∉ z.data.toList := by
  have h1 := split_words s
  rw [show Lib.splitB sp 0 (Lib.countB s sp) s = _ from h] at h1
  obtain ⟨h2, h3⟩ := (words3 _ _ _ _).1 h1.symm
  exact ⟨ba_ext (by rw [app_data, app_data, app_data, app_data, h2, List.append_assoc, List.append_assoc]; rfl), h3⟩
/-- Three words, of which the last has all that is left. -/
theorem split2_three (s x y z : ByteArray) (h : Lib.splitB sp 0 2 s = [x, y, z]) : s = x ++ sp ++ (y ++ sp ++ z) ∧ (32 : UInt8) ∉ x.data.toList ∧ (32 : UInt8) ∉ y.data.toList := by
  rcases first_sp s with h1 | ⟨a, r, rfl, ha, hr⟩
  · rw [split_miss _ _ h1] at h; simp at h
  · rw [split_hit _ _ _ ha] at h
    rcases first_sp r with h1 | ⟨b, r', rfl, hb, hr'⟩
    · rw [split_miss _ _ h1] at h; simp at h
    · rw [split_hit _ _ _ hb, Lib.splitB_zero] at h
      injection h with h1 h
      injection h with h2 h
      injection h with h3 h
      subst h1; subst h2; subst h3
      exact ⟨rfl, ha, hb⟩
theorem ext_cut (s : ByteArray) (f i : Nat) (hf : f ≤ i) (hi : i < s.size) (h : s[i] = 32) : s.extract f s.size = s.extract f i ++ sp ++ s.extract (i + 1) s.size := ba_ext (by
  have hs : s.size = s.data.toList.length := by simp
  rw [app_data, app_data, ByteArray.data_extract, ByteArray.data_extract, ByteArray.data_extract, Array.toList_extract, Array.toList_extract, Array.toList_extract, List.extract_eq_take_drop, List.extract_eq_take_drop, List.extract_eq_take_drop]
  have e : s.data.toList.drop f = (s.data.toList.drop f).take (i - f) ++ 32 :: s.data.toList.drop (i + 1) := by
    conv => lhs; rw [← List.take_append_drop (i - f) (s.data.toList.drop f)]
    rw [List.drop_drop, show f + (i - f) = i from by omega, List.drop_eq_getElem_cons (by omega : i < s.data.toList.length), show s.data.toList[i]'(by omega) = 32 from h]
  rw [List.take_of_length_le (l := s.data.toList.drop f) (i := s.size - f) (by rw [List.length_drop]; omega), List.take_of_length_le (l := s.data.toList.drop (i + 1)) (i := s.size - (i + 1)) (by rw [List.length_drop]; omega), List.append_assoc]
  exact e)
theorem ext_nosp (s : ByteArray) (f i : Nat) (hi : i ≤ s.size) (h : ∀ j (hj : j < s.size), f ≤ j → j < i → s[j] ≠ 32) : (32 : UInt8) ∉ (s.extract f i).data.toList := by
  intro hm
  rw [ByteArray.data_extract, Array.toList_extract, List.extract_eq_take_drop] at hm
  obtain ⟨j, hj, he⟩ := List.getElem_of_mem hm
  have hs : s.size = s.data.toList.length := by simp
  rw [List.length_take, List.length_drop] at hj
  rw [List.getElem_take, List.getElem_drop] at he
  exact h (f + j) (by omega) (by omega) (by omega) he
/-- How far the words are cut. -/
structure Cuts (s : ByteArray) (most : Nat) (acc : List ByteArray) (f i : Nat) : Prop where
  fi : f ≤ i
  is : i ≤ s.size
  len : acc.length + 1 ≤ most
  said : Lib.splitB sp 0 (most - 1) s = acc ++ Lib.splitB sp 0 (most - 1 - acc.length) (s.extract f s.size)
  no : ∀ j (hj : j < s.size), f ≤ j → j < i → s[j] ≠ 32
theorem Cuts.start (s : ByteArray) (most : Nat) (h : 1 ≤ most) : Cuts s most [] 0 0 :=
  ⟨Nat.le_refl _, Nat.zero_le _, by simpa using h, by simp, fun j _ _ h => by omega⟩
theorem Cuts.cut {s : ByteArray} {most f i : Nat} {acc : List ByteArray} (h : Cuts s most acc f i) (hi : i < s.size) (hc : s[i] = 32) (hl : acc.length + 1 < most) : Cuts s most (acc ++ [s.extract f i]) (i + 1) (i + 1) :=
  ⟨Nat.le_refl _, by omega, by rw [List.length_append, List.length_singleton]; omega, by
    rw [h.said, ext_cut s f i h.fi hi hc, show most - 1 - acc.length = (most - 1 - (acc ++ [s.extract f i]).length) + 1 from by rw [List.length_append, List.length_singleton]; omega,
      split_hit _ _ _ (ext_nosp s f i (by omega) h.no), List.append_assoc]; rfl, fun j _ h1 h2 => by omega⟩
theorem Cuts.on {s : ByteArray} {most f i : Nat} {acc : List ByteArray} (h : Cuts s most acc f i) (hi : i < s.size) (hc : s[i] ≠ 32) : Cuts s most acc f (i + 1) :=
  ⟨by have := h.fi; omega, by omega, h.len, h.said, fun j hj h1 h2 => by
    rcases Nat.lt_or_ge j i with h3 | h3
    · exact h.no j hj h1 h3
    · obtain rfl : j = i := by omega
      exact hc⟩
end Go.Proofs.YtmknhibaoopjjaaGreatDoor
namespace Go.Proofs.YtmknhibaoopjjaaGreatDoor
open Go.RowKit
theorem atoiV_le (s : ByteArray) (v : Int) (hv : atoiV s = some v) : -9223372036854775808 ≤ v ∧ v ≤ 9223372036854775807 := by
  unfold atoiV at hv
  split at hv
  · injection hv with hv
    subst hv
    rename_i h
    unfold Lib.atoiAll at h
    cases hl : s.data.toList with
    | nil => rw [hl] at h; cases h
    | cons c r =>
      rw [hl] at h
      dsimp only at h
      split at h
      · cases h
      · cases h
      · split at h
        · cases h
        · split at h
          · cases h
          · injection h with h
            rw [← h]
            split <;> omega
  · cases hv
/-- Anything else is no number. -/
theorem number_no (s : ByteArray) (most : Int) (w : World) (h : LibOk w) (hs : s.size ≤ 200) (hm : most ≤ 2000000) (hno : ¬ ∃ n, NumOk s most.toNat n) : Calls Tryz.prog 184 #[.string s, .int .i64 most] w fun e w' => (∃ x, e = .returned (.tuple #[.int .i64 x, .bool false])) ∧ Ext w w' := by
  have hx := Ext.refl w
  cases hv : atoiV s with
  | none =>
    have HA := fun w h => atoi_no s w h (by omega) hv
    go_enter Tryz.func184, Tryz.ntmps184
    go_wp2_with (go_at_call 146; (with_reducible apply Calls.mono (HA _ h); rintro e8 w8 ⟨⟨x8, N8, rfl⟩, hx8⟩; replace h := h.ext hx8; replace hx := hx.trans hx8; clear hx8; dsimp only))
    go_ret2
    exact ⟨⟨x8, rfl⟩, hx⟩
  | some v =>
    obtain ⟨hv1, hv2⟩ := atoiV_le s v hv
    have HA := fun w (h : LibOk w) => atoi_ok s v w (by omega) hv
    have HI := fun w (h : LibOk w) => itoa_any v w h hv1 hv2
    have hc : ((itoaB v).toList == s.toList) = false ∨ v < 0 ∨ most < v := by
      by_cases h1 : v < 0 ∨ most < v
      · exact .inr h1
      · left
        refine list_neq (fun e => hno ⟨v.toNat, by omega, ?_⟩)
        rw [← e, show ((v.toNat : Nat) : Int) = v from by omega]
    clear hno
    generalize itoaB v = y at *
    go_enter Tryz.func184, Tryz.ntmps184
    rcases hc with hc | hc
    · go_wp2_with (first | (go_at_call 146; (with_reducible apply Calls.mono (HA _ h); rintro e8 w8 ⟨rfl, hx8⟩; replace h := h.ext hx8; replace hx := hx.trans hx8; clear hx8; dsimp only)) | (go_at_call 193; (with_reducible apply Calls.mono (HI _ h); rintro e8 w8 ⟨rfl, hx8⟩; replace h := h.ext hx8; replace hx := hx.trans hx8; clear hx8; dsimp only)))
      all_goals first | (exfalso; omega) | (go_ret2; exact ⟨⟨v, rfl⟩, hx⟩)
    · go_wp2_with (first | (go_at_call 146; (with_reducible apply Calls.mono (HA _ h); rintro e8 w8 ⟨rfl, hx8⟩; replace h := h.ext hx8; replace hx := hx.trans hx8; clear hx8; dsimp only)) | (go_at_call 193; (with_reducible apply Calls.mono (HI _ h); rintro e8 w8 ⟨rfl, hx8⟩; replace h := h.ext hx8; replace hx := hx.trans hx8; clear hx8; dsimp only)))
      all_goals first | (exfalso; omega) | (go_ret2; exact ⟨⟨v, rfl⟩, hx⟩) | (go_ret2; refine ⟨⟨v, ?_⟩, hx⟩; simp; omega)
/-- What stands in a queue's row. -/
def QRow (s : ByteArray) (a b : Nat) (d : ByteArray) : Prop := s = rowS a b d ∧ a ≤ 999999 ∧ 1 ≤ b ∧ b ≤ 9 ∧ (d.size = 0 ∨ NameOk d)
def MRow (s : ByteArray) (a b : Nat) (d : ByteArray) : Prop := s = rowS a b d ∧ a ≤ 9 ∧ b ≤ 2000000 ∧ d.size ≤ 28
theorem splitAny (s : ByteArray) (w : World) (h : LibOk w) (hs : s.size ≤ 1000) :
    Calls Tryz.prog 212 #[.string s, .string ⟨#[32]⟩] w fun e w' => e = .returned (.slice (some ⟨w.heap.size, 0, none⟩) (wordsB s).length (wordsB s).length) ∧ w' = w.alloc (.cells ((wordsB s).map .string).toArray 9) := by
  obtain ⟨m, hm⟩ := h.max
  have h1 := Tryz.strings_Split s sp m w (by omega) hm (by decide)
  rw [← split_many s _ (Nat.le_refl _)] at h1
  exact h1
/-- How a text falls into three words, or doesn't. -/
theorem words_or (s : ByteArray) : (wordsB s).length ≠ 3 ∨ ∃ x y z, wordsB s = [x, y, z] := by
  by_cases h : (wordsB s).length = 3
  · right
    match hw : wordsB s, h with
    | [x, y, z], _ => exact ⟨x, y, z, rfl⟩
  · exact .inl h
theorem number_yes (s : ByteArray) (most : Int) (n : Nat) (w : World) (h : LibOk w) (hm : most ≤ 2000000) (hn : NumOk s most.toNat n) (h0 : 0 ≤ most) : Calls Tryz.prog 184 #[.string s, .int .i64 most] w fun e w' => e = .returned (.tuple #[.int .i64 n, .bool true]) ∧ Ext w w' := by
  rw [hn.2]
  exact number_ok n most w h (by have := hn.1; omega) hm
theorem number_some (s : ByteArray) (most : Int) (w : World) (h : LibOk w) (hs : s.size ≤ 200) (h0 : 0 ≤ most) (hm : most ≤ 2000000) : Calls Tryz.prog 184 #[.string s, .int .i64 most] w fun e w' => (∃ x b, e = .returned (.tuple #[.int .i64 x, .bool b])) ∧ Ext w w' := by
  by_cases hn : ∃ n, NumOk s most.toNat n
  · obtain ⟨n, hn⟩ := hn
    exact (number_yes s most n w h hm hn h0).mono fun e w' ⟨he, hx⟩ => ⟨⟨_, _, he⟩, hx⟩
  · exact (number_no s most w h hs hm hn).mono fun e w' ⟨⟨x, he⟩, hx⟩ => ⟨⟨_, _, he⟩, hx⟩
theorem three_sizes (s x y z : ByteArray) (h : s = x ++ sp ++ (y ++ sp ++ z)) : x.size ≤ s.size ∧ y.size ≤ s.size ∧ z.size ≤ s.size := by
  have : s.size = x.size + 1 + (y.size + 1 + z.size) := by
    rw [h, ByteArray.size_append, ByteArray.size_append, ByteArray.size_append, ByteArray.size_append]; rfl
  omega
set_option maxHeartbeats 4000000 in
set_option maxRecDepth 100000 in
theorem parseQueue_no (s : ByteArray) (w : World) (h : LibOk w) (hs : s.size ≤ 200) (hno : ¬ ∃ a b d, QRow s a b d) :
    Calls Tryz.prog 175 #[.string s] w fun e w' => e = .returned (.tuple #[.agg #[.int .i64 0, .int .i64 0, .string ⟨#[]⟩], .iface 127 (.int .i64 4)]) ∧ Ext w w' := by
  have hO := lib_base h
  have HSP := fun w h => splitAny s w h (by omega)
  rcases words_or s with hw | ⟨x, y, z, hw⟩
  · have hl : (((wordsB s).length : Int) == 3) = false := by simp; omega
    clear hno hw
    generalize wordsB s = l at *
    generalize l.length = n at *
    go_enter Tryz.func175, Tryz.ntmps175
    go_wp2_with (first | (go_at_call 212; (with_reducible apply Calls.mono (HSP _ (Own.immOf (φ := LibOk) hO pk_)); rintro e8 w8 ⟨rfl, rfl⟩; dsimp only)) | ((refine sy_ hO ?_); clear hO; intro w9 hO; (try dsimp only [List.set] at hO); ((try clear hf); have hf := fa_ hO)))
    refine bodyPost_run rfl fun K hK => ?_; simp [results, Tryz.results175, go_sem, hf]; exact hK _ ⟨rfl, hO.toExt⟩
  · obtain ⟨he, _, _, _⟩ := wordsB_three s x y z hw
    obtain ⟨sx, sy, sz⟩ := three_sizes s x y z he
    rw [hw] at HSP
    dsimp only [List.length_cons, List.length_nil, List.map_cons, List.map_nil] at HSP
    by_cases hX : ∃ n, NumOk x 999999 n
    · obtain ⟨a, ha⟩ := hX
      have HA1 := fun w h => number_yes x 999999 a w h (by omega) ha (by omega)
      by_cases hY : ∃ n, NumOk y 9 n
      · obtain ⟨b, hb⟩ := hY
        have HA2 := fun w h => number_yes y 9 b w h (by omega) hb (by omega)
        by_cases hb1 : 1 ≤ b
        · have hz : ¬ (z.size = 0 ∨ NameOk z) := fun hz => hno ⟨a, b, z, by rw [he, ha.2, hb.2]; rfl, ha.1, hb1, hb.1, hz⟩
          have hdl : z.toList.length = z.size := by rw [ByteArray.toList_eq]; rfl
          have hz1 : ¬ z.toList = [] := fun e => hz (.inl (by rw [← hdl, e]; rfl))
          have HN1 := fun w => name_any z w (by omega)
          rw [decide_eq_false (fun h => hz (.inr h))] at HN1
          clear hno hz he
          go_enter Tryz.func175, Tryz.ntmps175
          go_wp2_with (first | (go_at_call 212; (with_reducible apply Calls.mono (HSP _ (Own.immOf (φ := LibOk) hO pk_)); rintro e8 w8 ⟨rfl, rfl⟩; dsimp only)) | (go_at_call 184; (with_reducible apply Calls.mono (HA1 _ (Own.immOf (φ := LibOk) hO pk_)); rintro e8 w8 ⟨rfl, hx8⟩; replace hO := hO.ext hx8; clear hx8; dsimp only; ((try clear hf); have hf := fa_ hO))) | (go_at_call 184; (with_reducible apply Calls.mono (HA2 _ (Own.immOf (φ := LibOk) hO pk_)); rintro e8 w8 ⟨rfl, hx8⟩; replace hO := hO.ext hx8; clear hx8; dsimp only; ((try clear hf); have hf := fa_ hO))) | (go_at_call 145; (with_reducible apply Calls.mono (HN1 _); rintro e8 w8 ⟨rfl, rfl⟩; dsimp only)) | ((refine sy_ hO ?_); clear hO; intro w9 hO; (try dsimp only [List.set] at hO); ((try clear hf); have hf := fa_ hO)))
          all_goals first | (refine bodyPost_run rfl fun K hK => ?_; simp [results, Tryz.results175, go_sem, hf]; exact hK _ ⟨rfl, hO.toExt⟩; done) | (exfalso; omega) | (exfalso; simp_all; done)
        · clear hno he
          go_enter Tryz.func175, Tryz.ntmps175
          go_wp2_with (first | (go_at_call 212; (with_reducible apply Calls.mono (HSP _ (Own.immOf (φ := LibOk) hO pk_)); rintro e8 w8 ⟨rfl, rfl⟩; dsimp only)) | (go_at_call 184; (with_reducible apply Calls.mono (HA1 _ (Own.immOf (φ := LibOk) hO pk_)); rintro e8 w8 ⟨rfl, hx8⟩; replace hO := hO.ext hx8; clear hx8; dsimp only; ((try clear hf); have hf := fa_ hO))) | (go_at_call 184; (with_reducible apply Calls.mono (HA2 _ (Own.immOf (φ := LibOk) hO pk_)); rintro e8 w8 ⟨rfl, hx8⟩; replace hO := hO.ext hx8; clear hx8; dsimp only; ((try clear hf); have hf := fa_ hO))) | ((refine sy_ hO ?_); clear hO; intro w9 hO; (try dsimp only [List.set] at hO); ((try clear hf); have hf := fa_ hO)))
          all_goals first | (refine bodyPost_run rfl fun K hK => ?_; simp [results, Tryz.results175, go_sem, hf]; exact hK _ ⟨rfl, hO.toExt⟩; done) | (exfalso; omega) | (exfalso; simp_all; done)
      · have HA2 := fun w h => number_no y 9 w h (by omega) (by omega) hY
        clear hno he
        go_enter Tryz.func175, Tryz.ntmps175
        go_wp2_with (first | (go_at_call 212; (with_reducible apply Calls.mono (HSP _ (Own.immOf (φ := LibOk) hO pk_)); rintro e8 w8 ⟨rfl, rfl⟩; dsimp only)) | (go_at_call 184; (with_reducible apply Calls.mono (HA1 _ (Own.immOf (φ := LibOk) hO pk_)); rintro e8 w8 ⟨rfl, hx8⟩; replace hO := hO.ext hx8; clear hx8; dsimp only; ((try clear hf); have hf := fa_ hO))) | (go_at_call 184; (with_reducible apply Calls.mono (HA2 _ (Own.immOf (φ := LibOk) hO pk_)); rintro e8 w8 ⟨⟨x8, rfl⟩, hx8⟩; replace hO := hO.ext hx8; clear hx8; dsimp only; ((try clear hf); have hf := fa_ hO))) | ((refine sy_ hO ?_); clear hO; intro w9 hO; (try dsimp only [List.set] at hO); ((try clear hf); have hf := fa_ hO)))
        all_goals first | (refine bodyPost_run rfl fun K hK => ?_; simp [results, Tryz.results175, go_sem, hf]; exact hK _ ⟨rfl, hO.toExt⟩; done) | (exfalso; omega) | (exfalso; simp_all; done)
    · have HA1 := fun w h => number_no x 999999 w h (by omega) (by omega) hX
      have HA2 := fun w h => number_some y 9 w h (by omega) (by omega) (by omega)
      clear hno he
      go_enter Tryz.func175, Tryz.ntmps175
      go_wp2_with (first | (go_at_call 212; (with_reducible apply Calls.mono (HSP _ (Own.immOf (φ := LibOk) hO pk_)); rintro e8 w8 ⟨rfl, rfl⟩; dsimp only)) | (go_at_call 184; (with_reducible apply Calls.mono (HA1 _ (Own.immOf (φ := LibOk) hO pk_)); rintro e8 w8 ⟨⟨x8, rfl⟩, hx8⟩; replace hO := hO.ext hx8; clear hx8; dsimp only; ((try clear hf); have hf := fa_ hO))) | (go_at_call 184; (with_reducible apply Calls.mono (HA2 _ (Own.immOf (φ := LibOk) hO pk_)); rintro e8 w8 ⟨⟨x8, b8, rfl⟩, hx8⟩; replace hO := hO.ext hx8; clear hx8; dsimp only; ((try clear hf); have hf := fa_ hO))) | ((refine sy_ hO ?_); clear hO; intro w9 hO; (try dsimp only [List.set] at hO); ((try clear hf); have hf := fa_ hO)))
      all_goals first | (refine bodyPost_run rfl fun K hK => ?_; simp [results, Tryz.results175, go_sem, hf]; exact hK _ ⟨rfl, hO.toExt⟩; done) | (exfalso; omega) | (exfalso; simp_all; done)
theorem split_or (s : ByteArray) : (Lib.splitB sp 0 2 s).length ≠ 3 ∨ ∃ x y z, Lib.splitB sp 0 2 s = [x, y, z] := by
  by_cases h : (Lib.splitB sp 0 2 s).length = 3
  · right
    match hw : Lib.splitB sp 0 2 s, h with
    | [x, y, z], _ => exact ⟨x, y, z, rfl⟩
  · exact .inl h
/-- What SplitN gives: at most three words. -/
theorem splitN_few (s : ByteArray) (w : World) (h : LibOk w) (hs : s.size ≤ 1000) (hl : (Lib.splitB sp 0 2 s).length ≠ 3) :
    Calls Tryz.prog 183 #[.string s, .string ⟨#[32]⟩, .int .i64 3] w fun e w' => ∃ (n c : Nat) (cs : Array Value), n ≠ 3 ∧ e = .returned (.slice (some ⟨w.heap.size, 0, none⟩) n c) ∧ w' = w.alloc (.cells cs 9) := by
  obtain ⟨m, hm⟩ := h.max
  have h1 := Tryz.strings_SplitN s sp 3 m w (by omega) hm (by decide) (by decide) (by decide)
  refine h1.mono fun e w' ⟨he, hw⟩ => ⟨_, _, _, ?_, he, hw⟩
  have hc : Lib.countB s sp < 2 := by
    rcases Nat.lt_or_ge (Lib.countB s sp) 2 with h | h
    · exact h
    · exact absurd (split_many s 2 h) hl
  intro h3
  rcases Nat.le_total (min 3 (s.size + 1) - 1) (Lib.countB s sp) with h4 | h4
  · rw [split_many s _ h4] at h3; omega
  · rw [split_all s _ h4, ← split_all s 2 (by omega)] at h3
    exact hl h3
set_option maxHeartbeats 4000000 in
set_option maxRecDepth 100000 in
theorem parseMessage_no (n : Int) (s : ByteArray) (w : World) (h : LibOk w) (hs : s.size ≤ 200) (hno : ¬ ∃ a b d, MRow s a b d) :
    Calls Tryz.prog 133 #[.int .i64 n, .string s] w fun e w' => e = .returned (.tuple #[.agg #[.int .i64 0, .int .i64 0, .int .i64 0, .string ⟨#[]⟩], .iface 127 (.int .i64 4)]) ∧ Ext w w' := by
  have hO := lib_base h
  rcases split_or s with hw | ⟨x, y, z, hw⟩
  · have HSP := fun w h => splitN_few s w h (by omega) hw
    clear hno hw
    go_enter Tryz.func133, Tryz.ntmps133
    go_wp2_with (first | (go_at_call 183; (with_reducible apply Calls.mono (HSP _ (Own.immOf (φ := LibOk) hO pk_)); rintro e8 w8 ⟨n8, c8, cs8, hn8, rfl, rfl⟩; dsimp only)) | ((refine sy_ hO ?_); clear hO; intro w9 hO; (try dsimp only [List.set] at hO); ((try clear hf); have hf := fa_ hO)))
    all_goals first | (refine bodyPost_run rfl fun K hK => ?_; simp [results, Tryz.results133, go_sem, hf]; exact hK _ ⟨rfl, hO.toExt⟩; done) | (exfalso; omega) | (exfalso; simp_all; done)
  · obtain ⟨he, hx, hy⟩ := split2_three s x y z hw
    obtain ⟨sx, sy, sz⟩ := three_sizes s x y z he
    have HSP := fun w h => splitN3 x y z hx hy w h (by rw [← he]; omega)
    rw [← he] at HSP
    by_cases hz : z.size ≤ 28
    · by_cases hX : ∃ n, NumOk x 9 n
      · obtain ⟨a, ha⟩ := hX
        have HA1 := fun w h => number_yes x 9 a w h (by omega) ha (by omega)
        have hY : ¬ ∃ n, NumOk y 2000000 n := fun ⟨b, hb⟩ => hno ⟨a, b, z, by rw [he, ha.2, hb.2]; rfl, ha.1, hb.1, hz⟩
        have HA2 := fun w h => number_no y 2000000 w h (by omega) (by omega) hY
        clear hno he
        go_enter Tryz.func133, Tryz.ntmps133
        go_wp2_with (first | (go_at_call 183; (with_reducible apply Calls.mono (HSP _ (Own.immOf (φ := LibOk) hO pk_)); rintro e8 w8 ⟨rfl, rfl⟩; dsimp only)) | (go_at_call 184; (with_reducible apply Calls.mono (HA1 _ (Own.immOf (φ := LibOk) hO pk_)); rintro e8 w8 ⟨rfl, hx8⟩; replace hO := hO.ext hx8; clear hx8; dsimp only; ((try clear hf); have hf := fa_ hO))) | (go_at_call 184; (with_reducible apply Calls.mono (HA2 _ (Own.immOf (φ := LibOk) hO pk_)); rintro e8 w8 ⟨⟨x8, rfl⟩, hx8⟩; replace hO := hO.ext hx8; clear hx8; dsimp only; ((try clear hf); have hf := fa_ hO))) | ((refine sy_ hO ?_); clear hO; intro w9 hO; (try dsimp only [List.set] at hO); ((try clear hf); have hf := fa_ hO)))
        all_goals first | (refine bodyPost_run rfl fun K hK => ?_; simp [results, Tryz.results133, go_sem, hf]; exact hK _ ⟨rfl, hO.toExt⟩; done) | (exfalso; omega) | (exfalso; simp_all; done)
      · have HA1 := fun w h => number_no x 9 w h (by omega) (by omega) hX
        have HA2 := fun w h => number_some y 2000000 w h (by omega) (by omega) (by omega)
        clear hno he
        go_enter Tryz.func133, Tryz.ntmps133
        go_wp2_with (first | (go_at_call 183; (with_reducible apply Calls.mono (HSP _ (Own.immOf (φ := LibOk) hO pk_)); rintro e8 w8 ⟨rfl, rfl⟩; dsimp only)) | (go_at_call 184; (with_reducible apply Calls.mono (HA1 _ (Own.immOf (φ := LibOk) hO pk_)); rintro e8 w8 ⟨⟨x8, rfl⟩, hx8⟩; replace hO := hO.ext hx8; clear hx8; dsimp only; ((try clear hf); have hf := fa_ hO))) | (go_at_call 184; (with_reducible apply Calls.mono (HA2 _ (Own.immOf (φ := LibOk) hO pk_)); rintro e8 w8 ⟨⟨x8, b8, rfl⟩, hx8⟩; replace hO := hO.ext hx8; clear hx8; dsimp only; ((try clear hf); have hf := fa_ hO))) | ((refine sy_ hO ?_); clear hO; intro w9 hO; (try dsimp only [List.set] at hO); ((try clear hf); have hf := fa_ hO)))
        all_goals first | (refine bodyPost_run rfl fun K hK => ?_; simp [results, Tryz.results133, go_sem, hf]; exact hK _ ⟨rfl, hO.toExt⟩; done) | (exfalso; omega) | (exfalso; simp_all; done)
    · clear hno he
      go_enter Tryz.func133, Tryz.ntmps133
      go_wp2_with (first | (go_at_call 183; (with_reducible apply Calls.mono (HSP _ (Own.immOf (φ := LibOk) hO pk_)); rintro e8 w8 ⟨rfl, rfl⟩; dsimp only)) | ((refine sy_ hO ?_); clear hO; intro w9 hO; (try dsimp only [List.set] at hO); ((try clear hf); have hf := fa_ hO)))
      all_goals first | (refine bodyPost_run rfl fun K hK => ?_; simp [results, Tryz.results133, go_sem, hf]; exact hK _ ⟨rfl, hO.toExt⟩; done) | (exfalso; omega) | (exfalso; simp_all; done)
end Go.Proofs.YtmknhibaoopjjaaGreatDoor
namespace Go.Proofs.YtmknhibaoopjjaaGreatDoor
open Go.RowKit
theorem split2_row (a b : Nat) (d : ByteArray) : Lib.splitB sp 0 2 (rowS a b d) = [itoaB a, itoaB b, d] := by
  unfold rowS
  rw [split_hit _ _ _ (itoaB_nosp a), split_hit _ _ _ (itoaB_nosp b), Lib.splitB_zero]
end Go.Proofs.YtmknhibaoopjjaaGreatDoor
namespace Go.Proofs.YtmknhibaoopjjaaGreatDoor
open Go.RowKit
end Go.Proofs.YtmknhibaoopjjaaGreatDoor
namespace Go.Proofs.YtmknhibaoopjjaaGreatDoor
open Go.RowKit
end Go.Proofs.YtmknhibaoopjjaaGreatDoor
namespace Go.Proofs.YtmknhibaoopjjaaGreatDoor
open Go.RowKit
/-- A queue: the number of the next message, tries, where it goes then. -/
structure Qu where
  next : Int
  tries : Int
  dead : ByteArray
/-- A message: its number, tries, until, body. -/
structure Ms where
  num : Int
  tries : Int
  until_ : Int
  body : ByteArray
def Qu.v (q : Qu) : Value := .agg #[.int .i64 q.next, .int .i64 q.tries, .string q.dead]
def Ms.v (m : Ms) : Value := .agg #[.int .i64 m.num, .int .i64 m.tries, .int .i64 m.until_, .string m.body]
def Qu.z : Qu := ⟨0, 0, ⟨#[]⟩⟩
def Ms.z : Ms := ⟨0, 0, 0, ⟨#[]⟩⟩
def Qu.bad (q : Qu) : Prop := q.next < 0 ∨ 999999 < q.next ∨ q.tries < 1 ∨ 9 < q.tries
instance (q : Qu) : Decidable q.bad := by unfold Qu.bad; infer_instance
def Qu.named (q : Qu) : Prop := q.dead.size = 0 ∨ NameOk q.dead
instance (q : Qu) : Decidable q.named := by unfold Qu.named; infer_instance
def Ms.bad (m : Ms) : Prop := m.tries < 0 ∨ 9 < m.tries ∨ m.until_ < 0 ∨ 2000000 < m.until_ ∨ 28 < m.body.size
instance (m : Ms) : Decidable m.bad := by unfold Ms.bad; infer_instance
def Qu.txt (q : Qu) : ByteArray × Nat := if q.bad then (⟨#[]⟩, 1) else if q.named then (rowS q.next.toNat q.tries.toNat q.dead, 0) else (⟨#[]⟩, 3)
def Ms.txt (m : Ms) : ByteArray × Nat := if m.bad then (⟨#[]⟩, 1) else (rowS m.tries.toNat m.until_.toNat m.body, 0)
open Classical in
noncomputable def quOf (s : ByteArray) : Qu × Nat := if h : ∃ x : Nat × Nat × ByteArray, QRow s x.1 x.2.1 x.2.2 then (⟨(h.choose.1 : Int), (h.choose.2.1 : Int), h.choose.2.2⟩, 0) else (Qu.z, 4)
open Classical in
noncomputable def msOf (n : Int) (s : ByteArray) : Ms × Nat := if h : ∃ x : Nat × Nat × ByteArray, MRow s x.1 x.2.1 x.2.2 then (⟨n, (h.choose.1 : Int), (h.choose.2.1 : Int), h.choose.2.2⟩, 0) else (Ms.z, 4)
/-- What was read of a text may be a queue's. -/
def Qu.ok (q : Qu) : Prop := ¬ q.bad ∧ q.named
theorem quOf_cases (s : ByteArray) : (∃ q : Qu, quOf s = (q, 0) ∧ q.ok ∧ q.dead.size ≤ 6 ∧ ∃ a b : Nat, q.next = a ∧ q.tries = b ∧ QRow s a b q.dead) ∨ (quOf s = (Qu.z, 4) ∧ ¬ ∃ a b d, QRow s a b d) := by
  unfold quOf
  by_cases h : ∃ x : Nat × Nat × ByteArray, QRow s x.1 x.2.1 x.2.2
  · rw [dif_pos h]
    have h2 := h.choose_spec
    refine .inl ⟨_, rfl, ⟨?_, h2.2.2.2.2⟩, ?_, _, _, rfl, rfl, h2⟩
    · have h3 := h2.2.1
      have h4 := h2.2.2.1
      have h5 := h2.2.2.2.1
      unfold Qu.bad
      dsimp only
      omega
    · rcases h2.2.2.2.2 with h3 | h3
      · dsimp only; omega
      · exact h3.2.1
  · rw [dif_neg h]
    exact .inr ⟨rfl, fun ⟨a, b, d, hq⟩ => h ⟨(a, b, d), hq⟩⟩
theorem msOf_cases (n : Int) (s : ByteArray) : (∃ m : Ms, msOf n s = (m, 0) ∧ m.num = n ∧ ¬ m.bad ∧ ∃ a b : Nat, m.tries = a ∧ m.until_ = b ∧ MRow s a b m.body) ∨ (msOf n s = (Ms.z, 4) ∧ ¬ ∃ a b d, MRow s a b d) := by
  unfold msOf
  by_cases h : ∃ x : Nat × Nat × ByteArray, MRow s x.1 x.2.1 x.2.2
  · rw [dif_pos h]
    have h2 := h.choose_spec
    refine .inl ⟨_, rfl, rfl, ?_, _, _, rfl, rfl, h2⟩
    have h3 := h2.2.1
    have h4 := h2.2.2.1
    have h5 := h2.2.2.2
    unfold Ms.bad
    dsimp only
    omega
  · rw [dif_neg h]
    exact .inr ⟨rfl, fun ⟨a, b, d, hq⟩ => h ⟨(a, b, d), hq⟩⟩
theorem qtxt_any (q : Qu) (hd : q.dead.size ≤ 50) (w : World) (h : LibOk w) : Calls Tryz.prog 181 #[q.v] w fun e w' => e = .returned (.tuple #[.string q.txt.1, errV q.txt.2]) ∧ Ext w w' := by
  obtain ⟨a, b, d⟩ := q
  unfold Qu.txt Qu.v
  by_cases h1 : Qu.bad ⟨a, b, d⟩
  · rw [if_pos h1]; exact queueText_bound a b d w h h1
  · rw [if_neg h1]
    unfold Qu.bad at h1
    dsimp only at h1 hd
    by_cases h2 : Qu.named ⟨a, b, d⟩
    · rw [if_pos h2]
      obtain ⟨k, rfl⟩ := Int.eq_ofNat_of_zero_le (show 0 ≤ a by omega)
      obtain ⟨m, rfl⟩ := Int.eq_ofNat_of_zero_le (show 0 ≤ b by omega)
      exact queueText_ok k m d w h (by omega) (by omega) (by omega) h2 hd
    · rw [if_neg h2]; exact queueText_shape a b d w h h1 h2 hd
theorem mtxt_any (q : Ms) (w : World) (h : LibOk w) : Calls Tryz.prog 182 #[q.v] w fun e w' => e = .returned (.tuple #[.string q.txt.1, errV q.txt.2]) ∧ Ext w w' := by
  obtain ⟨n, a, b, d⟩ := q
  unfold Ms.txt Ms.v
  by_cases h1 : Ms.bad ⟨n, a, b, d⟩
  · rw [if_pos h1]; exact messageText_bound n a b d w h h1
  · rw [if_neg h1]
    unfold Ms.bad at h1
    dsimp only at h1
    obtain ⟨k, rfl⟩ := Int.eq_ofNat_of_zero_le (show 0 ≤ a by omega)
    obtain ⟨m, rfl⟩ := Int.eq_ofNat_of_zero_le (show 0 ≤ b by omega)
    exact messageText_ok n k m d w h (by omega) (by omega) (by omega)
theorem qpar_any (s : ByteArray) (hs : s.size ≤ 100) (w : World) (h : LibOk w) : Calls Tryz.prog 175 #[.string s] w fun e w' => e = .returned (.tuple #[(quOf s).1.v, errV (quOf s).2]) ∧ Ext w w' := by
  rcases quOf_cases s with ⟨q, hq, _, hds, a, b, ha, hb, hr⟩ | ⟨hq, hn⟩
  · rw [hq]
    obtain ⟨q1, q2, q3⟩ := q
    dsimp only at ha hb hr hds
    subst ha hb
    obtain ⟨he, h1, h2, h3, h4⟩ := hr
    rw [he]
    exact parseQueue_ok a b q3 w h h1 h2 h3 h4 (by omega)
  · rw [hq]; exact parseQueue_no s w h (by omega) hn
theorem mpar_any (n : Int) (s : ByteArray) (hs : s.size ≤ 100) (w : World) (h : LibOk w) : Calls Tryz.prog 133 #[.int .i64 n, .string s] w fun e w' => e = .returned (.tuple #[(msOf n s).1.v, errV (msOf n s).2]) ∧ Ext w w' := by
  rcases msOf_cases n s with ⟨q, hq, hn, _, a, b, ha, hb, hr⟩ | ⟨hq, hn⟩
  · rw [hq]
    obtain ⟨q0, q1, q2, q3⟩ := q
    dsimp only at ha hb hr hn
    subst ha hb hn
    obtain ⟨he, h1, h2, h3⟩ := hr
    rw [he]
    exact parseMessage_ok q0 a b q3 w h h1 h2 h3
  · rw [hq]; exact parseMessage_no n s w h (by omega) hn
end Go.Proofs.YtmknhibaoopjjaaGreatDoor
namespace Go.Proofs.YtmknhibaoopjjaaGreatDoor
open Go.RowKit
/-- May it be a change? -/
def ChOk (c : Ch) : Prop := KeyOk c.key ∧ (c.gone = true → c.val.size = 0) ∧ c.val.size ≤ 40
open Classical in
noncomputable def chN (c : Ch) : Nat := if KeyOk c.key then (if c.gone = true ∧ c.val.size ≠ 0 then 3 else if 40 < c.val.size then 1 else 0) else 3
theorem chN_no {c : Ch} (h : ¬ KeyOk c.key) : chN c = 3 := if_neg h
theorem chN_gone {c : Ch} (h : KeyOk c.key) (h2 : c.gone = true) (h3 : c.val.size ≠ 0) : chN c = 3 := by unfold chN; rw [if_pos h, if_pos ⟨h2, h3⟩]
theorem chN_big {c : Ch} (h : KeyOk c.key) (h2 : c.gone = true → c.val.size = 0) (h3 : 40 < c.val.size) : chN c = 1 := by
  unfold chN; rw [if_pos h, if_neg (fun e => e.2 (h2 e.1)), if_pos h3]
theorem chN_ok {c : Ch} (h : ChOk c) : chN c = 0 := by
  unfold chN; rw [if_pos h.1, if_neg (fun e => e.2 (h.2.1 e.1)), if_neg (by have := h.2.2; omega)]
theorem size_list (d : ByteArray) : d.toList.length = d.size := by rw [ByteArray.toList_eq]; rfl
theorem list_nil {d : ByteArray} : d.toList = [] ↔ d.size = 0 := by rw [← List.length_eq_zero_iff, size_list]
set_option maxHeartbeats 2000000 in
set_option maxRecDepth 100000 in
theorem chCheck_any (c : Ch) (w : World) (h : LibOk w) (hs : c.key.size ≤ 300) (hv : c.val.size ≤ 1000) : Calls Tryz.prog 100 #[c.v] w fun e w' => e = .returned (errV (chN c)) ∧ Ext w w' := by
  have hO := lib_base h
  have hC := fun w h => check_any c.key w h (by omega)
  unfold Ch.v
  by_cases hk : KeyOk c.key
  · rw [keyN_yes hk, show errV 0 = .nilIface from rfl] at hC
    by_cases hg : c.gone = true ∧ c.val.size ≠ 0
    · rw [chN_gone hk hg.1 hg.2]
      have e : errV 3 = .iface 127 (.int .i64 3) := rfl
      rw [e]
      clear e
      have hvl : ¬ c.val.toList = [] := fun e => hg.2 (list_nil.1 e)
      obtain ⟨k, v, g⟩ := c
      obtain ⟨rfl, hg2⟩ := hg
      dsimp only at *
      go_enter Tryz.func100, Tryz.ntmps100
      go_wp2_with (first | (go_at_call 80; (with_reducible apply Calls.mono (hC _ (Own.immOf (φ := LibOk) hO pk_)); rintro e8 w8 ⟨rfl, hx8⟩; replace hO := hO.ext hx8; clear hx8; dsimp only; ((try clear hf); have hf := fa_ hO))) | ((refine sy_ hO ?_); clear hO; intro w9 hO; (try dsimp only [List.set] at hO); ((try clear hf); have hf := fa_ hO)))
      all_goals first | (exfalso; omega) | (go_ret; exact ⟨rfl, hO.toExt⟩) | (exfalso; simp_all; done)
    · have hg' : c.gone = true → c.val.size = 0 := fun e => by
        by_cases hv : c.val.size = 0
        · exact hv
        · exact absurd ⟨e, hv⟩ hg
      by_cases hb : 40 < c.val.size
      · rw [chN_big hk hg' hb]
        have e : errV 1 = .iface 127 (.int .i64 1) := rfl
        rw [e]
        clear e
        obtain ⟨k, v, g⟩ := c
        cases g with
        | true => exact absurd (hg' rfl) (by dsimp only at *; omega)
        | false =>
          clear hg hg'
          dsimp only at *
          go_enter Tryz.func100, Tryz.ntmps100
          go_wp2_with (first | (go_at_call 80; (with_reducible apply Calls.mono (hC _ (Own.immOf (φ := LibOk) hO pk_)); rintro e8 w8 ⟨rfl, hx8⟩; replace hO := hO.ext hx8; clear hx8; dsimp only; ((try clear hf); have hf := fa_ hO))) | ((refine sy_ hO ?_); clear hO; intro w9 hO; (try dsimp only [List.set] at hO); ((try clear hf); have hf := fa_ hO)))
          all_goals first | (exfalso; omega) | (go_ret; exact ⟨rfl, hO.toExt⟩) | (exfalso; simp_all; done)
      · rw [chN_ok ⟨hk, hg', by omega⟩, show errV 0 = .nilIface from rfl]
        obtain ⟨k, v, g⟩ := c
        cases g with
        | true =>
          have hvl : v.toList = [] := list_nil.2 (hg' rfl)
          clear hg hg'
          dsimp only at *
          go_enter Tryz.func100, Tryz.ntmps100
          go_wp2_with (first | (go_at_call 80; (with_reducible apply Calls.mono (hC _ (Own.immOf (φ := LibOk) hO pk_)); rintro e8 w8 ⟨rfl, hx8⟩; replace hO := hO.ext hx8; clear hx8; dsimp only; ((try clear hf); have hf := fa_ hO))) | ((refine sy_ hO ?_); clear hO; intro w9 hO; (try dsimp only [List.set] at hO); ((try clear hf); have hf := fa_ hO)))
          all_goals first | (exfalso; omega) | (go_ret; exact ⟨rfl, hO.toExt⟩) | (exfalso; simp_all; done)
        | false =>
          clear hg hg'
          dsimp only at *
          go_enter Tryz.func100, Tryz.ntmps100
          go_wp2_with (first | (go_at_call 80; (with_reducible apply Calls.mono (hC _ (Own.immOf (φ := LibOk) hO pk_)); rintro e8 w8 ⟨rfl, hx8⟩; replace hO := hO.ext hx8; clear hx8; dsimp only; ((try clear hf); have hf := fa_ hO))) | ((refine sy_ hO ?_); clear hO; intro w9 hO; (try dsimp only [List.set] at hO); ((try clear hf); have hf := fa_ hO)))
          all_goals first | (exfalso; omega) | (go_ret; exact ⟨rfl, hO.toExt⟩) | (exfalso; simp_all; done)
  · rw [chN_no hk]
    rw [keyN_no hk] at hC
    have e : errV 3 = .iface 127 (.int .i64 3) := rfl
    rw [e] at hC ⊢
    clear e
    go_enter Tryz.func100, Tryz.ntmps100
    go_wp2_with (first | (go_at_call 80; (with_reducible apply Calls.mono (hC _ (Own.immOf (φ := LibOk) hO pk_)); rintro e8 w8 ⟨rfl, hx8⟩; replace hO := hO.ext hx8; clear hx8; dsimp only; ((try clear hf); have hf := fa_ hO))) | ((refine sy_ hO ?_); clear hO; intro w9 hO; (try dsimp only [List.set] at hO); ((try clear hf); have hf := fa_ hO)))
    all_goals first | (exfalso; omega) | (go_ret; exact ⟨rfl, hO.toExt⟩) | (exfalso; simp_all; done)
end Go.Proofs.YtmknhibaoopjjaaGreatDoor
namespace Go.Proofs.YtmknhibaoopjjaaGreatDoor
open Go.RowKit
end Go.Proofs.YtmknhibaoopjjaaGreatDoor
