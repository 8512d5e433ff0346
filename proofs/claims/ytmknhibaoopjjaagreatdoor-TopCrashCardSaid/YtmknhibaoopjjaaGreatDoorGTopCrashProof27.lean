/- Texts Row4, Row6, KeyC, Row7, Change, Change2, Change3 of this claim, laid together. -/
import Derived.Test.YtmknhibaoopjjaaGreatDoorGTopCrashProof24
import Derived.WalkSpells
import Derived.WalkLawsBesides
import Derived.Test.YtmknhibaoopjjaaGreatDoorGTopCrashProof3
import Derived.Test.YtmknhibaoopjjaaGreatDoorGTopCrashProof8
set_option linter.unusedVariables false
set_option linter.unusedSimpArgs false
namespace Go.Proofs.YtmknhibaoopjjaaGreatDoor
open Go.RowKit
theorem LibOk.up {w w' : World} (h : LibOk w) (hb : ∀ b, b < w.heap.size → w'.heap[b]? = w.heap[b]?) : LibOk w' := by
  have up : ∀ {a v}, w.cell? a = some v → w'.cell? a = some v := fun {a v} hc => by
    have hl : a.block < w.heap.size := by
      unfold World.cell? at hc
      split at hc
      · rename_i he; exact (Array.getElem?_eq_some_iff.1 he).1
      · cases hc
    rw [World.cell?_of_block (w := w) (hb _ hl)]; exact hc
  exact ⟨h.max.imp fun _ h => up h, h.syn.imp fun _ h => h.imp fun _ h => up h, h.rng.imp fun _ h => h.imp fun _ h => up h, tab_up h.tab hb⟩
theorem lib_base {w : World} (h : LibOk w) : Own (fun _ => False) w w [.imm LibOk] := Own.base w _ fun w' hw' => h.up hw'
end Go.Proofs.YtmknhibaoopjjaaGreatDoor
namespace Go.Proofs.YtmknhibaoopjjaaGreatDoor
open Go.RowKit
theorem Tryz.intU8 : Tryz.prog.underlying 5 = some (.int .u8) := by kernel_rfl
end Go.Proofs.YtmknhibaoopjjaaGreatDoor
namespace Go.Proofs.YtmknhibaoopjjaaGreatDoor
open Go.RowKit
end Go.Proofs.YtmknhibaoopjjaaGreatDoor
namespace Go.Proofs.YtmknhibaoopjjaaGreatDoor
open Go.RowKit
end Go.Proofs.YtmknhibaoopjjaaGreatDoor
namespace Go.Proofs.YtmknhibaoopjjaaGreatDoor
open Go.RowKit
/-- May it be a change? -/
def ChOk (c : Ch) : Prop := KeyOk c.key ∧ (c.gone = true → c.val.size = 0) ∧ c.val.size ≤ 40
open Classical in
noncomputable def chN (c : Ch) : Nat := if KeyOk c.key then (if c.gone = true ∧ c.val.size ≠ 0 then 3 else if 40 < c.val.size then 1 else 0) else 3
theorem chN_no {c : Ch} (h : ¬ KeyOk c.key) : chN c = 3 := if_neg h
theorem chN_gone {c : Ch} (h : KeyOk c.key) (h2 : c.gone = true) (h3 : c.val.size ≠ 0) : chN c = 3 := by unfold chN; rw [if_pos h, if_pos ⟨h2, h3⟩]
theorem chN_big {c : Ch} (h : KeyOk c.key) (h2 : c.gone = true → c.val.size = 0) (h3 : 40 < c.val.size) : chN c = 1 := by
  unfold chN; rw [if_pos h, if_neg (fun e => e.2 (h2 e.1)), if_pos h3]
theorem chN_ok {c : Ch} (h : ChOk c) : chN c = 0 := by
  unfold chN; rw [if_pos h.1, if_neg (fun e => e.2 (h.2.1 e.1)), if_neg (by have := h.2.2; omega)]
theorem chN_le (c : Ch) : chN c ≤ 3 := by
  unfold chN; split
  · split
    · omega
    · split <;> omega
  · omega
theorem chN_zero {c : Ch} : chN c = 0 ↔ ChOk c := by
  refine ⟨fun h => ?_, chN_ok⟩
  unfold chN at h
  split at h
  · rename_i h1
    split at h
    · cases h
    · rename_i h2
      split at h
      · cases h
      · rename_i h3
        refine ⟨h1, fun hg => ?_, by omega⟩
        by_cases hv : c.val.size = 0
        · exact hv
        · exact absurd ⟨hg, hv⟩ h2
  · cases h
theorem key_size {k : ByteArray} (h : KeyOk k) : k.size ≤ 15 := by
  rcases h with ⟨a, ha, rfl | rfl⟩ | ⟨q, n, hq, hn, rfl⟩
  · rw [ByteArray.size_append, ByteArray.size_append]; have := ha.2.1; show 1 + 1 + a.size ≤ 15; omega
  · rw [ByteArray.size_append, ByteArray.size_append]; have := ha.2.1; show 1 + 1 + a.size ≤ 15; omega
  · rw [ByteArray.size_append, ByteArray.size_append, ByteArray.size_append, ByteArray.size_append, six_size]; have := hq.2.1; show 1 + 1 + (q.size + 1 + 6) ≤ 15; omega
theorem size_list (d : ByteArray) : d.toList.length = d.size := by rw [ByteArray.toList_eq]; rfl
theorem list_nil {d : ByteArray} : d.toList = [] ↔ d.size = 0 := by rw [← List.length_eq_zero_iff, size_list]
set_option maxHeartbeats 2000000 in
set_option maxRecDepth 100000 in
theorem chCheck_any (c : Ch) (w : World) (h : LibOk w) (hs : c.key.size ≤ 300) (hv : c.val.size ≤ 1000) : Calls Tryz.prog 100 #[c.v] w fun e w' => e = .returned (errV (chN c)) ∧ Ext w w' := by
  have hO := lib_base h
  have hC := fun w h => check_any c.key w h (by omega)
  unfold Ch.v
  by_cases hk : KeyOk c.key
  · rw [keyN_yes hk, show errV 0 = .nilIface from rfl] at hC
    by_cases hg : c.gone = true ∧ c.val.size ≠ 0
    · rw [chN_gone hk hg.1 hg.2]
      have e : errV 3 = .iface 127 (.int .i64 3) := rfl
      rw [e]
      clear e
      have hvl : ¬ c.val.toList = [] := fun e => hg.2 (list_nil.1 e)
      obtain ⟨k, v, g⟩ := c
      obtain ⟨rfl, hg2⟩ := hg
      dsimp only at *
      go_enter Tryz.func100, Tryz.ntmps100
      go_wp2_with (first | (go_at_call 80; (with_reducible apply Calls.mono (hC _ (Own.immOf (φ := LibOk) hO pk_)); rintro e8 w8 ⟨rfl, hx8⟩; replace hO := hO.ext hx8; clear hx8; dsimp only; ((try clear hf); have hf := fa_ hO))) | ((refine sy_ hO ?_); clear hO; intro w9 hO; (try dsimp only [List.set] at hO); ((try clear hf); have hf := fa_ hO)))
      all_goals first | (exfalso; omega) | (go_ret; exact ⟨rfl, hO.toExt⟩) | (exfalso; simp_all; done)
    · have hg' : c.gone = true → c.val.size = 0 := fun e => by
        by_cases hv : c.val.size = 0
        · exact hv
        · exact absurd ⟨e, hv⟩ hg
      by_cases hb : 40 < c.val.size
      · rw [chN_big hk hg' hb]
        have e : errV 1 = .iface 127 (.int .i64 1) := rfl
        rw [e]
        clear e
        obtain ⟨k, v, g⟩ := c
        cases g with
        | true => exact absurd (hg' rfl) (by dsimp only at *; omega)
        | false =>
          clear hg hg'
          dsimp only at *
          go_enter Tryz.func100, Tryz.ntmps100
          go_wp2_with (first | (go_at_call 80; (with_reducible apply Calls.mono (hC _ (Own.immOf (φ := LibOk) hO pk_)); rintro e8 w8 ⟨rfl, hx8⟩; replace hO := hO.ext hx8; clear hx8; dsimp only; ((try clear hf); have hf := fa_ hO))) | ((refine sy_ hO ?_); clear hO; intro w9 hO; (try dsimp only [List.set] at hO); ((try clear hf); have hf := fa_ hO)))
          all_goals first | (exfalso; omega) | (go_ret; exact ⟨rfl, hO.toExt⟩) | (exfalso; simp_all; done)
      · rw [chN_ok ⟨hk, hg', by omega⟩, show errV 0 = .nilIface from rfl]
        obtain ⟨k, v, g⟩ := c
        cases g with
        | true =>
          have hvl : v.toList = [] := list_nil.2 (hg' rfl)
          clear hg hg'
          dsimp only at *
          go_enter Tryz.func100, Tryz.ntmps100
          go_wp2_with (first | (go_at_call 80; (with_reducible apply Calls.mono (hC _ (Own.immOf (φ := LibOk) hO pk_)); rintro e8 w8 ⟨rfl, hx8⟩; replace hO := hO.ext hx8; clear hx8; dsimp only; ((try clear hf); have hf := fa_ hO))) | ((refine sy_ hO ?_); clear hO; intro w9 hO; (try dsimp only [List.set] at hO); ((try clear hf); have hf := fa_ hO)))
          all_goals first | (exfalso; omega) | (go_ret; exact ⟨rfl, hO.toExt⟩) | (exfalso; simp_all; done)
        | false =>
          clear hg hg'
          dsimp only at *
          go_enter Tryz.func100, Tryz.ntmps100
          go_wp2_with (first | (go_at_call 80; (with_reducible apply Calls.mono (hC _ (Own.immOf (φ := LibOk) hO pk_)); rintro e8 w8 ⟨rfl, hx8⟩; replace hO := hO.ext hx8; clear hx8; dsimp only; ((try clear hf); have hf := fa_ hO))) | ((refine sy_ hO ?_); clear hO; intro w9 hO; (try dsimp only [List.set] at hO); ((try clear hf); have hf := fa_ hO)))
          all_goals first | (exfalso; omega) | (go_ret; exact ⟨rfl, hO.toExt⟩) | (exfalso; simp_all; done)
  · rw [chN_no hk]
    rw [keyN_no hk] at hC
    have e : errV 3 = .iface 127 (.int .i64 3) := rfl
    rw [e] at hC ⊢
    clear e
    go_enter Tryz.func100, Tryz.ntmps100
    go_wp2_with (first | (go_at_call 80; (with_reducible apply Calls.mono (hC _ (Own.immOf (φ := LibOk) hO pk_)); rintro e8 w8 ⟨rfl, hx8⟩; replace hO := hO.ext hx8; clear hx8; dsimp only; ((try clear hf); have hf := fa_ hO))) | ((refine sy_ hO ?_); clear hO; intro w9 hO; (try dsimp only [List.set] at hO); ((try clear hf); have hf := fa_ hO)))
    all_goals first | (exfalso; omega) | (go_ret; exact ⟨rfl, hO.toExt⟩) | (exfalso; simp_all; done)
end Go.Proofs.YtmknhibaoopjjaaGreatDoor
namespace Go.Proofs.YtmknhibaoopjjaaGreatDoor
open Go.RowKit
/-- A change's bytes. -/
def bytesC (c : Ch) : ByteArray := ⟨#[if c.gone then 1 else 0, UInt8.ofNat c.key.size]⟩ ++ c.key ++ c.val
theorem push_two (a b : Int) : ([a, b] : List Int).foldl (fun r n => r.push (UInt8.ofNat n.toNat)) ByteArray.empty = ⟨#[UInt8.ofNat a.toNat, UInt8.ofNat b.toNat]⟩ := rfl
set_option maxHeartbeats 2000000 in
set_option maxRecDepth 100000 in
theorem bytes_ok (c : Ch) (w : World) (h : LibOk w) (hs : c.key.size ≤ 200) (hv : c.val.size ≤ 1000) (hc : ChOk c) : Calls Tryz.prog 196 #[c.v] w fun e w' => e = .returned (.tuple #[.string (bytesC c), errV 0]) ∧ Ext w w' := by
  have hks := key_size hc.1
  have hO := lib_base h; have hC := fun w h => chCheck_any c w h (by omega) hv
  rw [chN_ok hc] at hC
  try rw [show errV 0 = .nilIface from rfl] at hC
  obtain ⟨x, hx⟩ : ∃ x, x = (⟨#[if c.gone then 1 else 0, UInt8.ofNat c.key.size]⟩ : ByteArray) := ⟨_, rfl⟩
  have hxs : x.size = 2 := by rw [hx]; rfl
  have hfin : bytesC c = x ++ c.key ++ c.val := by rw [hx]; rfl
  rw [hfin]
  clear hfin
  have HX := Lib.hid hx
  clear hx hc
  unfold Ch.v at *
  obtain ⟨k, v, g⟩ := c
  dsimp only at *
  have hm : ((k.size : Int) % 256) = k.size := by omega
  cases g with
  | true =>
    have HY : (⟨#[UInt8.ofNat (1 : Int).toNat, UInt8.ofNat (k.size : Int).toNat]⟩ : ByteArray) = x := HX.out.symm
    go_enter Tryz.func196, Tryz.ntmps196
    go_wp2_with (first | (go_at_call 100; (with_reducible apply Calls.mono (hC _ (Own.immOf (φ := LibOk) hO pk_)); rintro e8 w8 ⟨rfl, hx8⟩; replace hO := hO.ext hx8; clear hx8; dsimp only; ((try clear hf); have hf := fa_ hO))) | ((refine wpList_bytes_own4 hO (r := Var _ [.int .u8 1, .int .u8 (k.size : Int)] 5) pk_ rfl (.tmp 18) 174 9 5 rfl Tryz.underlying174 Tryz.intU8 Tryz.underlying9 _ 0 2 2 [1, (k.size : Int)] rfl rfl (fun j u hj => Var.at (t := 5) (hO.factOf (r := Var _ [.int .u8 1, .int .u8 (k.size : Int)] 5) pk_) j u hj) ?_; rw [push_two]); rw [HY]) | ((refine sy_ hO ?_); clear hO; intro w9 hO; (try dsimp only [List.set] at hO); ((try clear hf); have hf := fa_ hO)))
    go_ret2
    exact ⟨rfl, hO.toExt⟩
  | false =>
    have HY : (⟨#[UInt8.ofNat (0 : Int).toNat, UInt8.ofNat (k.size : Int).toNat]⟩ : ByteArray) = x := HX.out.symm
    go_enter Tryz.func196, Tryz.ntmps196
    go_wp2_with (first | (go_at_call 100; (with_reducible apply Calls.mono (hC _ (Own.immOf (φ := LibOk) hO pk_)); rintro e8 w8 ⟨rfl, hx8⟩; replace hO := hO.ext hx8; clear hx8; dsimp only; ((try clear hf); have hf := fa_ hO))) | ((refine wpList_bytes_own4 hO (r := Var _ [.int .u8 0, .int .u8 (k.size : Int)] 5) pk_ rfl (.tmp 18) 174 9 5 rfl Tryz.underlying174 Tryz.intU8 Tryz.underlying9 _ 0 2 2 [0, (k.size : Int)] rfl rfl (fun j u hj => Var.at (t := 5) (hO.factOf (r := Var _ [.int .u8 0, .int .u8 (k.size : Int)] 5) pk_) j u hj) ?_; rw [push_two]); rw [HY]) | ((refine sy_ hO ?_); clear hO; intro w9 hO; (try dsimp only [List.set] at hO); ((try clear hf); have hf := fa_ hO)))
    go_ret2
    exact ⟨rfl, hO.toExt⟩

end Go.Proofs.YtmknhibaoopjjaaGreatDoor
namespace Go.Proofs.YtmknhibaoopjjaaGreatDoor
open Go.RowKit
/-- The bytes hold a change so. -/
structure Reads3 (s : ByteArray) (c : Ch) : Prop where
  h2 : 2 ≤ s.size
  h0 : (s[0]'(by omega)).toNat ≤ 1
  h1 : 2 + (s[1]'(by omega)).toNat ≤ s.size
  key : c.key = s.extract 2 (2 + (s[1]'(by omega)).toNat)
  val : c.val = s.extract (2 + (s[1]'(by omega)).toNat) s.size
  gone : c.gone = ((s[0]'(by omega)).toNat == 1)
set_option maxHeartbeats 2000000 in
set_option maxRecDepth 100000 in
theorem parse_ok (s : ByteArray) (c : Ch) (w : World) (h : LibOk w) (hs : s.size ≤ 300) (hr : Reads3 s c) (hc : ChOk c) : Calls Tryz.prog 154 #[.string s] w fun e w' => e = .returned (.tuple #[c.v, .nilIface]) ∧ Ext w w' := by
  have hx1 := key_size hc.1
  have hx2 := hc.2.2
  have hO := lib_base h; have hC := fun w h => chCheck_any c w h (by omega) (by omega)
  have h20 : 0 < s.size := by have := hr.h2; omega
  have hg : c.gone = ((s[0]'h20).toNat == 1) := hr.gone
  obtain ⟨h2, h0, h1, hk, hv, -⟩ := hr
  rw [chN_ok hc] at hC
  try rw [show errV 0 = .nilIface from rfl] at hC
  clear hx1 hx2
  obtain ⟨k, v, g⟩ := c
  dsimp only at hk hv hg
  clear hc
  unfold Ch.v at *
  dsimp only at hC ⊢
  subst hk
  subst hv
  have hz : (s[0]'h20).toNat = 0 ∨ (s[0]'h20).toNat = 1 := by omega
  rcases hz with hz | hz
  · rw [hz] at hg
    obtain rfl : g = false := hg
    have HZ := Lib.hid hz
    clear hz
    go_enter Tryz.func154, Tryz.ntmps154
    go_wp2_with (first | ((refine sy_ hO ?_); clear hO; intro w9 hO; (try dsimp only [List.set] at hO); ((try clear hf); have hf := fa_ hO)))
    have hz := HZ.out
    (refine wp_region_run (fun _ => True) (fun _ _ _ _ => trivial) trivial ((0, 0) :: (0, 1) :: (0, 2) :: (0, 3) :: (0, 4) :: (0, 5) :: (0, 6) :: (0, 7) :: (0, 8) :: (0, 9) :: (4, 10) :: (5, 11) :: []) (by kernel_rfl) (by kernel_rfl) rfl (fun _ _ d _ _ h => by cases d <;> exact h) ?_; intro w9 hx9; replace hO := hO.ext hx9; clear hx9; ((try clear hf); have hf := fa_ hO); (repeat (first | (apply inRun_p _ rfl rfl rfl; focus (intro w8 K8 hK8; (repeat (first | go_skip | go_guarded | go_step)); exact hK8)) | (apply inRun_l _ rfl rfl rfl; focus (intro w8 hx8 K8 hK8; have hO := hO.ext hx8; ((try clear hf); have hf := fa_ hO); skip; (repeat (first | go_skip | go_guarded | go_step)); exact hK8)) | (apply inRun_q _ rfl; (focus (intro w8 hx8 K8 hK8; have hO := hO.ext hx8; ((try clear hf); have hf := fa_ hO); (repeat (first | go_skip | go_guarded | go_step | fail)); (first | exact xt_ | exact hK8 _ xt_))); (focus (exact rfl)); intro w8 hx8; replace hO := hO.ext hx8; clear hx8; ((try clear hf); have hf := fa_ hO)))))
    (refine inRun_x rfl ?_; intro K8 hK8; (repeat (first | go_skip | go_guarded | go_step)); refine hK8 _ _ xt_ ?_; clear hK8 K8; with_reducible refine inRun_alloc_own hO ?_; clear hO; intro w9 hO; ((try clear hf); have hf := fa_ hO))
    (refine inRun_d rfl ?_; intro K8 hK8; (repeat (first | go_skip | go_guarded | go_step)); refine hK8 _ _ trivial ?_; clear hK8 K8; with_reducible apply inRun_set_own; (focus (exact st_ hO)); clear hO; intro w9 hO; (try dsimp only [List.set] at hO); ((try clear hf); have hf := fa_ hO))
    refine inRun_nil ?_
    go_wp2_with (first | (go_at_call 100; (with_reducible apply Calls.mono (hC _ (Own.immOf (φ := LibOk) hO pk_)); rintro e8 w8 ⟨rfl, hx8⟩; replace hO := hO.ext hx8; clear hx8; dsimp only; ((try clear hf); have hf := fa_ hO))) | ((refine sy_ hO ?_); clear hO; intro w9 hO; (try dsimp only [List.set] at hO); ((try clear hf); have hf := fa_ hO)))
    refine bodyPost_run rfl fun K hK => ?_; simp [results, Tryz.results154, go_sem, hf]; exact hK _ ⟨rfl, hO.toExt⟩
  · rw [hz] at hg
    obtain rfl : g = true := hg
    have HZ := Lib.hid hz
    clear hz
    go_enter Tryz.func154, Tryz.ntmps154
    go_wp2_with (first | ((refine sy_ hO ?_); clear hO; intro w9 hO; (try dsimp only [List.set] at hO); ((try clear hf); have hf := fa_ hO)))
    have hz := HZ.out
    (refine wp_region_run (fun _ => True) (fun _ _ _ _ => trivial) trivial ((0, 0) :: (0, 1) :: (0, 2) :: (0, 3) :: (0, 4) :: (0, 5) :: (0, 6) :: (0, 7) :: (0, 8) :: (0, 9) :: (4, 10) :: (5, 11) :: []) (by kernel_rfl) (by kernel_rfl) rfl (fun _ _ d _ _ h => by cases d <;> exact h) ?_; intro w9 hx9; replace hO := hO.ext hx9; clear hx9; ((try clear hf); have hf := fa_ hO); (repeat (first | (apply inRun_p _ rfl rfl rfl; focus (intro w8 K8 hK8; (repeat (first | go_skip | go_guarded | go_step)); exact hK8)) | (apply inRun_l _ rfl rfl rfl; focus (intro w8 hx8 K8 hK8; have hO := hO.ext hx8; ((try clear hf); have hf := fa_ hO); skip; (repeat (first | go_skip | go_guarded | go_step)); exact hK8)) | (apply inRun_q _ rfl; (focus (intro w8 hx8 K8 hK8; have hO := hO.ext hx8; ((try clear hf); have hf := fa_ hO); (repeat (first | go_skip | go_guarded | go_step | fail)); (first | exact xt_ | exact hK8 _ xt_))); (focus (exact rfl)); intro w8 hx8; replace hO := hO.ext hx8; clear hx8; ((try clear hf); have hf := fa_ hO)))))
    (refine inRun_x rfl ?_; intro K8 hK8; (repeat (first | go_skip | go_guarded | go_step)); refine hK8 _ _ xt_ ?_; clear hK8 K8; with_reducible refine inRun_alloc_own hO ?_; clear hO; intro w9 hO; ((try clear hf); have hf := fa_ hO))
    (refine inRun_d rfl ?_; intro K8 hK8; (repeat (first | go_skip | go_guarded | go_step)); refine hK8 _ _ trivial ?_; clear hK8 K8; with_reducible apply inRun_set_own; (focus (exact st_ hO)); clear hO; intro w9 hO; (try dsimp only [List.set] at hO); ((try clear hf); have hf := fa_ hO))
    refine inRun_nil ?_
    go_wp2_with (first | (go_at_call 100; (with_reducible apply Calls.mono (hC _ (Own.immOf (φ := LibOk) hO pk_)); rintro e8 w8 ⟨rfl, hx8⟩; replace hO := hO.ext hx8; clear hx8; dsimp only; ((try clear hf); have hf := fa_ hO))) | ((refine sy_ hO ?_); clear hO; intro w9 hO; (try dsimp only [List.set] at hO); ((try clear hf); have hf := fa_ hO)))
    refine bodyPost_run rfl fun K hK => ?_; simp [results, Tryz.results154, go_sem, hf]; exact hK _ ⟨rfl, hO.toExt⟩
set_option maxHeartbeats 2000000 in
set_option maxRecDepth 100000 in
theorem parse_bad (s : ByteArray) (c : Ch) (w : World) (h : LibOk w) (hs : s.size ≤ 300) (hr : Reads3 s c) (hc : ¬ ChOk c) : Calls Tryz.prog 154 #[.string s] w fun e w' => e = .returned (.tuple #[.agg #[.string ⟨#[]⟩, .string ⟨#[]⟩, .bool false], errV 4]) ∧ Ext w w' := by
  have hx1 : c.key.size ≤ 300 := by rw [hr.key, ByteArray.size_extract]; omega
  have hx2 : c.val.size ≤ 1000 := by rw [hr.val, ByteArray.size_extract]; omega
  have hO := lib_base h; have hC := fun w h => chCheck_any c w h hx1 hx2
  have h20 : 0 < s.size := by have := hr.h2; omega
  have hg : c.gone = ((s[0]'h20).toNat == 1) := hr.gone
  obtain ⟨h2, h0, h1, hk, hv, -⟩ := hr
  obtain ⟨m, hm⟩ : ∃ m, chN c = m + 1 := ⟨chN c - 1, by have : chN c ≠ 0 := fun e => hc (chN_zero.1 e); omega⟩
  rw [hm] at hC
  try rw [show errV (m + 1) = .iface 127 (.int .i64 ((m + 1 : Nat) : Int)) from rfl] at hC
  rw [show (errV 4 : Value) = .iface 127 (.int .i64 4) from rfl]
  clear hx1 hx2 hm
  obtain ⟨k, v, g⟩ := c
  dsimp only at hk hv hg
  clear hc
  unfold Ch.v at *
  dsimp only at hC ⊢
  subst hk
  subst hv
  have hz : (s[0]'h20).toNat = 0 ∨ (s[0]'h20).toNat = 1 := by omega
  rcases hz with hz | hz
  · rw [hz] at hg
    obtain rfl : g = false := hg
    have HZ := Lib.hid hz
    clear hz
    go_enter Tryz.func154, Tryz.ntmps154
    go_wp2_with (first | ((refine sy_ hO ?_); clear hO; intro w9 hO; (try dsimp only [List.set] at hO); ((try clear hf); have hf := fa_ hO)))
    have hz := HZ.out
    (refine wp_region_run (fun _ => True) (fun _ _ _ _ => trivial) trivial ((0, 0) :: (0, 1) :: (0, 2) :: (0, 3) :: (0, 4) :: (0, 5) :: (0, 6) :: (0, 7) :: (0, 8) :: (0, 9) :: (4, 10) :: (5, 11) :: []) (by kernel_rfl) (by kernel_rfl) rfl (fun _ _ d _ _ h => by cases d <;> exact h) ?_; intro w9 hx9; replace hO := hO.ext hx9; clear hx9; ((try clear hf); have hf := fa_ hO); (repeat (first | (apply inRun_p _ rfl rfl rfl; focus (intro w8 K8 hK8; (repeat (first | go_skip | go_guarded | go_step)); exact hK8)) | (apply inRun_l _ rfl rfl rfl; focus (intro w8 hx8 K8 hK8; have hO := hO.ext hx8; ((try clear hf); have hf := fa_ hO); skip; (repeat (first | go_skip | go_guarded | go_step)); exact hK8)) | (apply inRun_q _ rfl; (focus (intro w8 hx8 K8 hK8; have hO := hO.ext hx8; ((try clear hf); have hf := fa_ hO); (repeat (first | go_skip | go_guarded | go_step | fail)); (first | exact xt_ | exact hK8 _ xt_))); (focus (exact rfl)); intro w8 hx8; replace hO := hO.ext hx8; clear hx8; ((try clear hf); have hf := fa_ hO)))))
    (refine inRun_x rfl ?_; intro K8 hK8; (repeat (first | go_skip | go_guarded | go_step)); refine hK8 _ _ xt_ ?_; clear hK8 K8; with_reducible refine inRun_alloc_own hO ?_; clear hO; intro w9 hO; ((try clear hf); have hf := fa_ hO))
    (refine inRun_d rfl ?_; intro K8 hK8; (repeat (first | go_skip | go_guarded | go_step)); refine hK8 _ _ trivial ?_; clear hK8 K8; with_reducible apply inRun_set_own; (focus (exact st_ hO)); clear hO; intro w9 hO; (try dsimp only [List.set] at hO); ((try clear hf); have hf := fa_ hO))
    refine inRun_nil ?_
    go_wp2_with (first | (go_at_call 100; (with_reducible apply Calls.mono (hC _ (Own.immOf (φ := LibOk) hO pk_)); rintro e8 w8 ⟨rfl, hx8⟩; replace hO := hO.ext hx8; clear hx8; dsimp only; ((try clear hf); have hf := fa_ hO))) | ((refine sy_ hO ?_); clear hO; intro w9 hO; (try dsimp only [List.set] at hO); ((try clear hf); have hf := fa_ hO)))
    all_goals first | (refine bodyPost_run rfl fun K hK => ?_; simp [results, Tryz.results154, go_sem, hf]; exact hK _ ⟨rfl, hO.toExt⟩; done) | (exfalso; omega)
  · rw [hz] at hg
    obtain rfl : g = true := hg
    have HZ := Lib.hid hz
    clear hz
    go_enter Tryz.func154, Tryz.ntmps154
    go_wp2_with (first | ((refine sy_ hO ?_); clear hO; intro w9 hO; (try dsimp only [List.set] at hO); ((try clear hf); have hf := fa_ hO)))
    have hz := HZ.out
    (refine wp_region_run (fun _ => True) (fun _ _ _ _ => trivial) trivial ((0, 0) :: (0, 1) :: (0, 2) :: (0, 3) :: (0, 4) :: (0, 5) :: (0, 6) :: (0, 7) :: (0, 8) :: (0, 9) :: (4, 10) :: (5, 11) :: []) (by kernel_rfl) (by kernel_rfl) rfl (fun _ _ d _ _ h => by cases d <;> exact h) ?_; intro w9 hx9; replace hO := hO.ext hx9; clear hx9; ((try clear hf); have hf := fa_ hO); (repeat (first | (apply inRun_p _ rfl rfl rfl; focus (intro w8 K8 hK8; (repeat (first | go_skip | go_guarded | go_step)); exact hK8)) | (apply inRun_l _ rfl rfl rfl; focus (intro w8 hx8 K8 hK8; have hO := hO.ext hx8; ((try clear hf); have hf := fa_ hO); skip; (repeat (first | go_skip | go_guarded | go_step)); exact hK8)) | (apply inRun_q _ rfl; (focus (intro w8 hx8 K8 hK8; have hO := hO.ext hx8; ((try clear hf); have hf := fa_ hO); (repeat (first | go_skip | go_guarded | go_step | fail)); (first | exact xt_ | exact hK8 _ xt_))); (focus (exact rfl)); intro w8 hx8; replace hO := hO.ext hx8; clear hx8; ((try clear hf); have hf := fa_ hO)))))
    (refine inRun_x rfl ?_; intro K8 hK8; (repeat (first | go_skip | go_guarded | go_step)); refine hK8 _ _ xt_ ?_; clear hK8 K8; with_reducible refine inRun_alloc_own hO ?_; clear hO; intro w9 hO; ((try clear hf); have hf := fa_ hO))
    (refine inRun_d rfl ?_; intro K8 hK8; (repeat (first | go_skip | go_guarded | go_step)); refine hK8 _ _ trivial ?_; clear hK8 K8; with_reducible apply inRun_set_own; (focus (exact st_ hO)); clear hO; intro w9 hO; (try dsimp only [List.set] at hO); ((try clear hf); have hf := fa_ hO))
    refine inRun_nil ?_
    go_wp2_with (first | (go_at_call 100; (with_reducible apply Calls.mono (hC _ (Own.immOf (φ := LibOk) hO pk_)); rintro e8 w8 ⟨rfl, hx8⟩; replace hO := hO.ext hx8; clear hx8; dsimp only; ((try clear hf); have hf := fa_ hO))) | ((refine sy_ hO ?_); clear hO; intro w9 hO; (try dsimp only [List.set] at hO); ((try clear hf); have hf := fa_ hO)))
    all_goals first | (refine bodyPost_run rfl fun K hK => ?_; simp [results, Tryz.results154, go_sem, hf]; exact hK _ ⟨rfl, hO.toExt⟩; done) | (exfalso; omega)
set_option maxHeartbeats 2000000 in
set_option maxRecDepth 100000 in
theorem parse_few (s : ByteArray) (w : World) (h : LibOk w) (hs : s.size ≤ 300) (hr : ¬ ∃ c, Reads3 s c) : Calls Tryz.prog 154 #[.string s] w fun e w' => e = .returned (.tuple #[.agg #[.string ⟨#[]⟩, .string ⟨#[]⟩, .bool false], errV 4]) ∧ Ext w w' := by
  rw [show (errV 4 : Value) = .iface 127 (.int .i64 4) from rfl]
  have hO := Own.start w (fun _ => False)
  by_cases h2 : 2 ≤ s.size
  · have h01 : ¬ ((s[0]'(by omega)).toNat ≤ 1 ∧ 2 + (s[1]'(by omega)).toNat ≤ s.size) := fun ⟨h0, h1⟩ => hr ⟨⟨s.extract 2 (2 + (s[1]'(by omega)).toNat), s.extract (2 + (s[1]'(by omega)).toNat) s.size, (s[0]'(by omega)).toNat == 1⟩, ⟨h2, h0, h1, rfl, rfl, rfl⟩⟩
    clear hr
    have hb : (s[1]'(by omega)).toNat < 256 := UInt8.toNat_lt _
    by_cases h0 : (s[0]'(by omega)).toNat ≤ 1
    · have h1 : ¬ 2 + (s[1]'(by omega)).toNat ≤ s.size := fun h => h01 ⟨h0, h⟩
      clear h01
      go_enter Tryz.func154, Tryz.ntmps154
      go_wp2_with (first | ((refine sy_ hO ?_); clear hO; intro w9 hO; (try dsimp only [List.set] at hO); ((try clear hf); have hf := fa_ hO)))
      all_goals first | (refine bodyPost_run rfl fun K hK => ?_; simp [results, Tryz.results154, go_sem, hf]; exact hK _ ⟨rfl, hO.toExt⟩; done) | (exfalso; omega)
    · clear h01
      go_enter Tryz.func154, Tryz.ntmps154
      go_wp2_with (first | ((refine sy_ hO ?_); clear hO; intro w9 hO; (try dsimp only [List.set] at hO); ((try clear hf); have hf := fa_ hO)))
      all_goals first | (refine bodyPost_run rfl fun K hK => ?_; simp [results, Tryz.results154, go_sem, hf]; exact hK _ ⟨rfl, hO.toExt⟩; done) | (exfalso; omega)
  · clear hr
    go_enter Tryz.func154, Tryz.ntmps154
    go_wp2_with (first | ((refine sy_ hO ?_); clear hO; intro w9 hO; (try dsimp only [List.set] at hO); ((try clear hf); have hf := fa_ hO)))
    all_goals first | (refine bodyPost_run rfl fun K hK => ?_; simp [results, Tryz.results154, go_sem, hf]; exact hK _ ⟨rfl, hO.toExt⟩; done) | (exfalso; omega)

end Go.Proofs.YtmknhibaoopjjaaGreatDoor
