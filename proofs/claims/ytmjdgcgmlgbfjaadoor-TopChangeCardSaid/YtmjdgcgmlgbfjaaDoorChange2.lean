/- Package change and its reference: a change's faults by the reference; bytes of a change, written. -/
import Derived.Test.YtmjdgcgmlgbfjaaDoorChange
import Derived.Test.YtmjdgcgmlgbfjaaDoorRow6
set_option linter.unusedVariables false
set_option linter.unusedSimpArgs false
namespace Go.Proofs.YtmjdgcgmlgbfjaaDoor
open Go.RowKit
set_option maxHeartbeats 2000000 in
set_option maxRecDepth 100000 in
theorem chFault_any (c : Ch) (w : World) (hs : c.key.size ≤ 300) (hv : c.val.size ≤ 1000) : Calls Tryd.prog 33 #[c.v] w fun e w' => e = .returned (.int .i64 (chN c)) ∧ Ext w w' := by
  have hO := Own.start w (fun _ => False)
  have hC := fun w => keyFault_any c.key w hs
  unfold Ch.v
  by_cases hk : KeyOk c.key
  · rw [keyN_yes hk] at hC
    by_cases hg : c.gone = true ∧ c.val.size ≠ 0
    · rw [chN_gone hk hg.1 hg.2]
      have hvl : ¬ c.val.toList = [] := fun e => hg.2 (list_nil.1 e)
      obtain ⟨k, v, g⟩ := c
      obtain ⟨rfl, hg2⟩ := hg
      dsimp only at *
      go_enter Tryd.func33, Tryd.ntmps33
      go_wp2_with (first | (go_at_call 22; (with_reducible apply Calls.mono (hC _); rintro e8 w8 ⟨rfl, rfl⟩; dsimp only)) | ((first | with_reducible refine wpList_alloc_own hO ?_ | with_reducible refine wpList_drew_own hO ?_ | with_reducible refine wp_alloc_own hO ?_ | with_reducible refine wp_drew_own hO ?_ | with_reducible refine bodyPost_alloc_own hO ?_ | with_reducible refine bodyPost_drew_own hO ?_ | ((first | with_reducible apply wpList_set_own | with_reducible apply wp_set_own | with_reducible apply bodyPost_set_own); (focus (first | (with_reducible apply Own.set; (focus (with_reducible apply hO)); (repeat (first | with_reducible exact Put.here _ _ _ | with_reducible apply Put.there)); done) | (with_reducible apply Own.setRow; (focus (with_reducible apply hO)); (focus (repeat (first | with_reducible exact Put.here _ _ _ | with_reducible apply Put.there))); first | assumption | (simp; omega) | (simp; assumption)) | ((repeat' (first | with_reducible apply hO | with_reducible apply Own.set)); all_goals (repeat (first | with_reducible exact Put.here _ _ _ | with_reducible apply Put.there)); done))))); clear hO; intro w9 hO; (try dsimp only [List.set] at hO); ((try clear hf); have hf := hO.facts; (try simp only [FX, Nat.zero_add, Nat.reduceAdd, and_true, true_and, List.map_cons, List.map_nil, List.cons_append, List.nil_append] at hf))))
      all_goals first | (exfalso; omega) | (go_ret; exact ⟨rfl, hO.toExt⟩) | (exfalso; simp_all; done)
    · have hg' : c.gone = true → c.val.size = 0 := fun e => by
        by_cases hv : c.val.size = 0
        · exact hv
        · exact absurd ⟨e, hv⟩ hg
      by_cases hb : 40 < c.val.size
      · rw [chN_big hk hg' hb]
        obtain ⟨k, v, g⟩ := c
        cases g with
        | true => exact absurd (hg' rfl) (by dsimp only at *; omega)
        | false =>
          clear hg hg'
          dsimp only at *
          go_enter Tryd.func33, Tryd.ntmps33
          go_wp2_with (first | (go_at_call 22; (with_reducible apply Calls.mono (hC _); rintro e8 w8 ⟨rfl, rfl⟩; dsimp only)) | ((first | with_reducible refine wpList_alloc_own hO ?_ | with_reducible refine wpList_drew_own hO ?_ | with_reducible refine wp_alloc_own hO ?_ | with_reducible refine wp_drew_own hO ?_ | with_reducible refine bodyPost_alloc_own hO ?_ | with_reducible refine bodyPost_drew_own hO ?_ | ((first | with_reducible apply wpList_set_own | with_reducible apply wp_set_own | with_reducible apply bodyPost_set_own); (focus (first | (with_reducible apply Own.set; (focus (with_reducible apply hO)); (repeat (first | with_reducible exact Put.here _ _ _ | with_reducible apply Put.there)); done) | (with_reducible apply Own.setRow; (focus (with_reducible apply hO)); (focus (repeat (first | with_reducible exact Put.here _ _ _ | with_reducible apply Put.there))); first | assumption | (simp; omega) | (simp; assumption)) | ((repeat' (first | with_reducible apply hO | with_reducible apply Own.set)); all_goals (repeat (first | with_reducible exact Put.here _ _ _ | with_reducible apply Put.there)); done))))); clear hO; intro w9 hO; (try dsimp only [List.set] at hO); ((try clear hf); have hf := hO.facts; (try simp only [FX, Nat.zero_add, Nat.reduceAdd, and_true, true_and, List.map_cons, List.map_nil, List.cons_append, List.nil_append] at hf))))
          all_goals first | (exfalso; omega) | (go_ret; exact ⟨rfl, hO.toExt⟩) | (exfalso; simp_all; done)
      · rw [chN_ok ⟨hk, hg', by omega⟩]
        obtain ⟨k, v, g⟩ := c
        cases g with
        | true =>
          have hvl : v.toList = [] := list_nil.2 (hg' rfl)
          clear hg hg'
          dsimp only at *
          go_enter Tryd.func33, Tryd.ntmps33
          go_wp2_with (first | (go_at_call 22; (with_reducible apply Calls.mono (hC _); rintro e8 w8 ⟨rfl, rfl⟩; dsimp only)) | ((first | with_reducible refine wpList_alloc_own hO ?_ | with_reducible refine wpList_drew_own hO ?_ | with_reducible refine wp_alloc_own hO ?_ | with_reducible refine wp_drew_own hO ?_ | with_reducible refine bodyPost_alloc_own hO ?_ | with_reducible refine bodyPost_drew_own hO ?_ | ((first | with_reducible apply wpList_set_own | with_reducible apply wp_set_own | with_reducible apply bodyPost_set_own); (focus (first | (with_reducible apply Own.set; (focus (with_reducible apply hO)); (repeat (first | with_reducible exact Put.here _ _ _ | with_reducible apply Put.there)); done) | (with_reducible apply Own.setRow; (focus (with_reducible apply hO)); (focus (repeat (first | with_reducible exact Put.here _ _ _ | with_reducible apply Put.there))); first | assumption | (simp; omega) | (simp; assumption)) | ((repeat' (first | with_reducible apply hO | with_reducible apply Own.set)); all_goals (repeat (first | with_reducible exact Put.here _ _ _ | with_reducible apply Put.there)); done))))); clear hO; intro w9 hO; (try dsimp only [List.set] at hO); ((try clear hf); have hf := hO.facts; (try simp only [FX, Nat.zero_add, Nat.reduceAdd, and_true, true_and, List.map_cons, List.map_nil, List.cons_append, List.nil_append] at hf))))
          all_goals first | (exfalso; omega) | (go_ret; exact ⟨rfl, hO.toExt⟩) | (exfalso; simp_all; done)
        | false =>
          clear hg hg'
          dsimp only at *
          go_enter Tryd.func33, Tryd.ntmps33
          go_wp2_with (first | (go_at_call 22; (with_reducible apply Calls.mono (hC _); rintro e8 w8 ⟨rfl, rfl⟩; dsimp only)) | ((first | with_reducible refine wpList_alloc_own hO ?_ | with_reducible refine wpList_drew_own hO ?_ | with_reducible refine wp_alloc_own hO ?_ | with_reducible refine wp_drew_own hO ?_ | with_reducible refine bodyPost_alloc_own hO ?_ | with_reducible refine bodyPost_drew_own hO ?_ | ((first | with_reducible apply wpList_set_own | with_reducible apply wp_set_own | with_reducible apply bodyPost_set_own); (focus (first | (with_reducible apply Own.set; (focus (with_reducible apply hO)); (repeat (first | with_reducible exact Put.here _ _ _ | with_reducible apply Put.there)); done) | (with_reducible apply Own.setRow; (focus (with_reducible apply hO)); (focus (repeat (first | with_reducible exact Put.here _ _ _ | with_reducible apply Put.there))); first | assumption | (simp; omega) | (simp; assumption)) | ((repeat' (first | with_reducible apply hO | with_reducible apply Own.set)); all_goals (repeat (first | with_reducible exact Put.here _ _ _ | with_reducible apply Put.there)); done))))); clear hO; intro w9 hO; (try dsimp only [List.set] at hO); ((try clear hf); have hf := hO.facts; (try simp only [FX, Nat.zero_add, Nat.reduceAdd, and_true, true_and, List.map_cons, List.map_nil, List.cons_append, List.nil_append] at hf))))
          all_goals first | (exfalso; omega) | (go_ret; exact ⟨rfl, hO.toExt⟩) | (exfalso; simp_all; done)
  · rw [chN_no hk]
    rw [keyN_no hk] at hC
    go_enter Tryd.func33, Tryd.ntmps33
    go_wp2_with (first | (go_at_call 22; (with_reducible apply Calls.mono (hC _); rintro e8 w8 ⟨rfl, rfl⟩; dsimp only)) | ((first | with_reducible refine wpList_alloc_own hO ?_ | with_reducible refine wpList_drew_own hO ?_ | with_reducible refine wp_alloc_own hO ?_ | with_reducible refine wp_drew_own hO ?_ | with_reducible refine bodyPost_alloc_own hO ?_ | with_reducible refine bodyPost_drew_own hO ?_ | ((first | with_reducible apply wpList_set_own | with_reducible apply wp_set_own | with_reducible apply bodyPost_set_own); (focus (first | (with_reducible apply Own.set; (focus (with_reducible apply hO)); (repeat (first | with_reducible exact Put.here _ _ _ | with_reducible apply Put.there)); done) | (with_reducible apply Own.setRow; (focus (with_reducible apply hO)); (focus (repeat (first | with_reducible exact Put.here _ _ _ | with_reducible apply Put.there))); first | assumption | (simp; omega) | (simp; assumption)) | ((repeat' (first | with_reducible apply hO | with_reducible apply Own.set)); all_goals (repeat (first | with_reducible exact Put.here _ _ _ | with_reducible apply Put.there)); done))))); clear hO; intro w9 hO; (try dsimp only [List.set] at hO); ((try clear hf); have hf := hO.facts; (try simp only [FX, Nat.zero_add, Nat.reduceAdd, and_true, true_and, List.map_cons, List.map_nil, List.cons_append, List.nil_append] at hf))))
    all_goals first | (exfalso; omega) | (go_ret; exact ⟨rfl, hO.toExt⟩) | (exfalso; simp_all; done)
/-- A change's bytes. -/
def bytesC (c : Ch) : ByteArray := ⟨#[if c.gone then 1 else 0, UInt8.ofNat c.key.size]⟩ ++ c.key ++ c.val
theorem push_two (a b : Int) : ([a, b] : List Int).foldl (fun r n => r.push (UInt8.ofNat n.toNat)) ByteArray.empty = ⟨#[UInt8.ofNat a.toNat, UInt8.ofNat b.toNat]⟩ := rfl
set_option maxHeartbeats 2000000 in
set_option maxRecDepth 100000 in
theorem bytes_no (c : Ch) (w : World) (h : LibOk w) (hs : c.key.size ≤ 200) (hv : c.val.size ≤ 1000) (hc : ¬ ChOk c) : Calls Tryd.prog 34 #[c.v] w fun e w' => e = .returned (.tuple #[.string ⟨#[]⟩, errV (chN c)]) ∧ Ext w w' := by
  have hO := lib_base h
  have hC := fun w h => chCheck_any c w h (by omega) hv
  have h0 : chN c ≠ 0 := fun e => hc (chN_zero.1 e)
  obtain ⟨m, hm⟩ : ∃ m, chN c = m + 1 := ⟨chN c - 1, by omega⟩
  rw [hm] at hC ⊢
  have e : errV (m + 1) = .iface 23 (.int .i64 ((m + 1 : Nat) : Int)) := rfl
  rw [e] at hC ⊢
  clear e hm h0
  unfold Ch.v at *
  go_enter Tryd.func34, Tryd.ntmps34
  go_wp2_with (first | (go_at_call 38; (with_reducible apply Calls.mono (hC _ (Own.immOf (φ := LibOk) hO (by repeat (first | with_reducible exact Pick.here _ _ | with_reducible apply Pick.there)))); rintro e8 w8 ⟨rfl, hx8⟩; replace hO := hO.ext hx8; clear hx8; dsimp only; ((try clear hf); have hf := hO.facts; (try simp only [FX, Nat.zero_add, Nat.reduceAdd, and_true, true_and, List.map_cons, List.map_nil, List.cons_append, List.nil_append] at hf)))) | ((first | with_reducible refine wpList_alloc_own hO ?_ | with_reducible refine wpList_drew_own hO ?_ | with_reducible refine wp_alloc_own hO ?_ | with_reducible refine wp_drew_own hO ?_ | with_reducible refine bodyPost_alloc_own hO ?_ | with_reducible refine bodyPost_drew_own hO ?_ | ((first | with_reducible apply wpList_set_own | with_reducible apply wp_set_own | with_reducible apply bodyPost_set_own); (focus (first | (with_reducible apply Own.set; (focus (with_reducible apply hO)); (repeat (first | with_reducible exact Put.here _ _ _ | with_reducible apply Put.there)); done) | (with_reducible apply Own.setRow; (focus (with_reducible apply hO)); (focus (repeat (first | with_reducible exact Put.here _ _ _ | with_reducible apply Put.there))); first | assumption | (simp; omega) | (simp; assumption)) | ((repeat' (first | with_reducible apply hO | with_reducible apply Own.set)); all_goals (repeat (first | with_reducible exact Put.here _ _ _ | with_reducible apply Put.there)); done))))); clear hO; intro w9 hO; (try dsimp only [List.set] at hO); ((try clear hf); have hf := hO.facts; (try simp only [FX, Nat.zero_add, Nat.reduceAdd, and_true, true_and, List.map_cons, List.map_nil, List.cons_append, List.nil_append] at hf))))
  go_ret2
  exact ⟨rfl, hO.toExt⟩
set_option maxHeartbeats 2000000 in
set_option maxRecDepth 100000 in
theorem rbytes_no (c : Ch) (w : World) (hs : c.key.size ≤ 200) (hv : c.val.size ≤ 1000) (hc : ¬ ChOk c) : Calls Tryd.prog 35 #[c.v] w fun e w' => e = .returned (.tuple #[.string ⟨#[]⟩, .int .i64 (chN c)]) ∧ Ext w w' := by
  have hO := Own.start w (fun _ => False)
  have hC := fun w => chFault_any c w (by omega) hv
  have h0 : chN c ≠ 0 := fun e => hc (chN_zero.1 e)
  obtain ⟨m, hm⟩ : ∃ m, chN c = m + 1 := ⟨chN c - 1, by omega⟩
  rw [hm] at hC ⊢
  clear hm h0
  unfold Ch.v at *
  go_enter Tryd.func35, Tryd.ntmps35
  go_wp2_with (first | (go_at_call 33; (with_reducible apply Calls.mono (hC _); rintro e8 w8 ⟨rfl, hx8⟩; replace hO := hO.ext hx8; clear hx8; dsimp only; ((try clear hf); have hf := hO.facts; (try simp only [FX, Nat.zero_add, Nat.reduceAdd, and_true, true_and, List.map_cons, List.map_nil, List.cons_append, List.nil_append] at hf)))) | ((first | with_reducible refine wpList_alloc_own hO ?_ | with_reducible refine wpList_drew_own hO ?_ | with_reducible refine wp_alloc_own hO ?_ | with_reducible refine wp_drew_own hO ?_ | with_reducible refine bodyPost_alloc_own hO ?_ | with_reducible refine bodyPost_drew_own hO ?_ | ((first | with_reducible apply wpList_set_own | with_reducible apply wp_set_own | with_reducible apply bodyPost_set_own); (focus (first | (with_reducible apply Own.set; (focus (with_reducible apply hO)); (repeat (first | with_reducible exact Put.here _ _ _ | with_reducible apply Put.there)); done) | (with_reducible apply Own.setRow; (focus (with_reducible apply hO)); (focus (repeat (first | with_reducible exact Put.here _ _ _ | with_reducible apply Put.there))); first | assumption | (simp; omega) | (simp; assumption)) | ((repeat' (first | with_reducible apply hO | with_reducible apply Own.set)); all_goals (repeat (first | with_reducible exact Put.here _ _ _ | with_reducible apply Put.there)); done))))); clear hO; intro w9 hO; (try dsimp only [List.set] at hO); ((try clear hf); have hf := hO.facts; (try simp only [FX, Nat.zero_add, Nat.reduceAdd, and_true, true_and, List.map_cons, List.map_nil, List.cons_append, List.nil_append] at hf))))
  all_goals first | (go_ret2; exact ⟨rfl, hO.toExt⟩) | (exfalso; omega)
set_option maxHeartbeats 2000000 in
set_option maxRecDepth 100000 in
theorem bytes_ok (c : Ch) (w : World) (h : LibOk w) (hs : c.key.size ≤ 200) (hv : c.val.size ≤ 1000) (hc : ChOk c) : Calls Tryd.prog 34 #[c.v] w fun e w' => e = .returned (.tuple #[.string (bytesC c), errV 0]) ∧ Ext w w' := by
  have hks := key_size hc.1
  have hO := lib_base h; have hC := fun w h => chCheck_any c w h (by omega) hv
  rw [chN_ok hc] at hC
  try rw [show errV 0 = .nilIface from rfl] at hC
  obtain ⟨x, hx⟩ : ∃ x, x = (⟨#[if c.gone then 1 else 0, UInt8.ofNat c.key.size]⟩ : ByteArray) := ⟨_, rfl⟩
  have hxs : x.size = 2 := by rw [hx]; rfl
  have hfin : bytesC c = x ++ c.key ++ c.val := by rw [hx]; rfl
  rw [hfin]
  clear hfin
  have HX := Lib.hid hx
  clear hx hc
  unfold Ch.v at *
  obtain ⟨k, v, g⟩ := c
  dsimp only at *
  have hm : ((k.size : Int) % 256) = k.size := by omega
  cases g with
  | true =>
    have HY : (⟨#[UInt8.ofNat (1 : Int).toNat, UInt8.ofNat (k.size : Int).toNat]⟩ : ByteArray) = x := HX.out.symm
    go_enter Tryd.func34, Tryd.ntmps34
    go_wp2_with (first | (go_at_call 38; (with_reducible apply Calls.mono (hC _ (Own.immOf (φ := LibOk) hO (by repeat (first | with_reducible exact Pick.here _ _ | with_reducible apply Pick.there)))); rintro e8 w8 ⟨rfl, hx8⟩; replace hO := hO.ext hx8; clear hx8; dsimp only; ((try clear hf); have hf := hO.facts; (try simp only [FX, Nat.zero_add, Nat.reduceAdd, and_true, true_and, List.map_cons, List.map_nil, List.cons_append, List.nil_append] at hf)))) | ((refine wpList_bytes_own4 hO (r := Var _ [.int .u8 1, .int .u8 (k.size : Int)] 5) (by repeat (first | with_reducible exact Pick.here _ _ | with_reducible apply Pick.there)) rfl (.tmp 18) 93 9 5 rfl Tryd.underlying93 Tryd.intU8 Tryd.underlying9 _ 0 2 2 [1, (k.size : Int)] rfl rfl (fun j u hj => Var.at (t := 5) (hO.factOf (r := Var _ [.int .u8 1, .int .u8 (k.size : Int)] 5) (by repeat (first | with_reducible exact Pick.here _ _ | with_reducible apply Pick.there))) j u hj) ?_; rw [push_two]); rw [HY]) | ((first | with_reducible refine wpList_alloc_own hO ?_ | with_reducible refine wpList_drew_own hO ?_ | with_reducible refine wp_alloc_own hO ?_ | with_reducible refine wp_drew_own hO ?_ | with_reducible refine bodyPost_alloc_own hO ?_ | with_reducible refine bodyPost_drew_own hO ?_ | ((first | with_reducible apply wpList_set_own | with_reducible apply wp_set_own | with_reducible apply bodyPost_set_own); (focus (first | (with_reducible apply Own.set; (focus (with_reducible apply hO)); (repeat (first | with_reducible exact Put.here _ _ _ | with_reducible apply Put.there)); done) | (with_reducible apply Own.setRow; (focus (with_reducible apply hO)); (focus (repeat (first | with_reducible exact Put.here _ _ _ | with_reducible apply Put.there))); first | assumption | (simp; omega) | (simp; assumption)) | ((repeat' (first | with_reducible apply hO | with_reducible apply Own.set)); all_goals (repeat (first | with_reducible exact Put.here _ _ _ | with_reducible apply Put.there)); done))))); clear hO; intro w9 hO; (try dsimp only [List.set] at hO); ((try clear hf); have hf := hO.facts; (try simp only [FX, Nat.zero_add, Nat.reduceAdd, and_true, true_and, List.map_cons, List.map_nil, List.cons_append, List.nil_append] at hf))))
    go_ret2
    exact ⟨rfl, hO.toExt⟩
  | false =>
    have HY : (⟨#[UInt8.ofNat (0 : Int).toNat, UInt8.ofNat (k.size : Int).toNat]⟩ : ByteArray) = x := HX.out.symm
    go_enter Tryd.func34, Tryd.ntmps34
    go_wp2_with (first | (go_at_call 38; (with_reducible apply Calls.mono (hC _ (Own.immOf (φ := LibOk) hO (by repeat (first | with_reducible exact Pick.here _ _ | with_reducible apply Pick.there)))); rintro e8 w8 ⟨rfl, hx8⟩; replace hO := hO.ext hx8; clear hx8; dsimp only; ((try clear hf); have hf := hO.facts; (try simp only [FX, Nat.zero_add, Nat.reduceAdd, and_true, true_and, List.map_cons, List.map_nil, List.cons_append, List.nil_append] at hf)))) | ((refine wpList_bytes_own4 hO (r := Var _ [.int .u8 0, .int .u8 (k.size : Int)] 5) (by repeat (first | with_reducible exact Pick.here _ _ | with_reducible apply Pick.there)) rfl (.tmp 18) 93 9 5 rfl Tryd.underlying93 Tryd.intU8 Tryd.underlying9 _ 0 2 2 [0, (k.size : Int)] rfl rfl (fun j u hj => Var.at (t := 5) (hO.factOf (r := Var _ [.int .u8 0, .int .u8 (k.size : Int)] 5) (by repeat (first | with_reducible exact Pick.here _ _ | with_reducible apply Pick.there))) j u hj) ?_; rw [push_two]); rw [HY]) | ((first | with_reducible refine wpList_alloc_own hO ?_ | with_reducible refine wpList_drew_own hO ?_ | with_reducible refine wp_alloc_own hO ?_ | with_reducible refine wp_drew_own hO ?_ | with_reducible refine bodyPost_alloc_own hO ?_ | with_reducible refine bodyPost_drew_own hO ?_ | ((first | with_reducible apply wpList_set_own | with_reducible apply wp_set_own | with_reducible apply bodyPost_set_own); (focus (first | (with_reducible apply Own.set; (focus (with_reducible apply hO)); (repeat (first | with_reducible exact Put.here _ _ _ | with_reducible apply Put.there)); done) | (with_reducible apply Own.setRow; (focus (with_reducible apply hO)); (focus (repeat (first | with_reducible exact Put.here _ _ _ | with_reducible apply Put.there))); first | assumption | (simp; omega) | (simp; assumption)) | ((repeat' (first | with_reducible apply hO | with_reducible apply Own.set)); all_goals (repeat (first | with_reducible exact Put.here _ _ _ | with_reducible apply Put.there)); done))))); clear hO; intro w9 hO; (try dsimp only [List.set] at hO); ((try clear hf); have hf := hO.facts; (try simp only [FX, Nat.zero_add, Nat.reduceAdd, and_true, true_and, List.map_cons, List.map_nil, List.cons_append, List.nil_append] at hf))))
    go_ret2
    exact ⟨rfl, hO.toExt⟩

set_option maxHeartbeats 2000000 in
set_option maxRecDepth 100000 in
theorem rbytes_ok (c : Ch) (w : World)  (hs : c.key.size ≤ 200) (hv : c.val.size ≤ 1000) (hc : ChOk c) : Calls Tryd.prog 35 #[c.v] w fun e w' => e = .returned (.tuple #[.string (bytesC c), .int .i64 0]) ∧ Ext w w' := by
  have hks := key_size hc.1
  have hO := Own.start w (fun _ => False); have hC := fun w => chFault_any c w (by omega) hv
  rw [chN_ok hc] at hC
  try rw [show errV 0 = .nilIface from rfl] at hC
  obtain ⟨x, hx⟩ : ∃ x, x = (⟨#[if c.gone then 1 else 0, UInt8.ofNat c.key.size]⟩ : ByteArray) := ⟨_, rfl⟩
  have hxs : x.size = 2 := by rw [hx]; rfl
  have hfin : bytesC c = x ++ c.key ++ c.val := by rw [hx]; rfl
  rw [hfin]
  clear hfin
  have HX := Lib.hid hx
  clear hx hc
  unfold Ch.v at *
  obtain ⟨k, v, g⟩ := c
  dsimp only at *
  have hm : ((k.size : Int) % 256) = k.size := by omega
  cases g with
  | true =>
    have HY : (⟨#[UInt8.ofNat (1 : Int).toNat, UInt8.ofNat (k.size : Int).toNat]⟩ : ByteArray) = x := HX.out.symm
    go_enter Tryd.func35, Tryd.ntmps35
    go_wp2_with (first | (go_at_call 33; (with_reducible apply Calls.mono (hC _); rintro e8 w8 ⟨rfl, hx8⟩; replace hO := hO.ext hx8; clear hx8; dsimp only; ((try clear hf); have hf := hO.facts; (try simp only [FX, Nat.zero_add, Nat.reduceAdd, and_true, true_and, List.map_cons, List.map_nil, List.cons_append, List.nil_append] at hf)))) | ((refine wpList_bytes_own4 hO (r := Var _ [.int .u8 1, .int .u8 (k.size : Int)] 5) (by repeat (first | with_reducible exact Pick.here _ _ | with_reducible apply Pick.there)) rfl (.tmp 18) 93 9 5 rfl Tryd.underlying93 Tryd.intU8 Tryd.underlying9 _ 0 2 2 [1, (k.size : Int)] rfl rfl (fun j u hj => Var.at (t := 5) (hO.factOf (r := Var _ [.int .u8 1, .int .u8 (k.size : Int)] 5) (by repeat (first | with_reducible exact Pick.here _ _ | with_reducible apply Pick.there))) j u hj) ?_; rw [push_two]); rw [HY]) | ((first | with_reducible refine wpList_alloc_own hO ?_ | with_reducible refine wpList_drew_own hO ?_ | with_reducible refine wp_alloc_own hO ?_ | with_reducible refine wp_drew_own hO ?_ | with_reducible refine bodyPost_alloc_own hO ?_ | with_reducible refine bodyPost_drew_own hO ?_ | ((first | with_reducible apply wpList_set_own | with_reducible apply wp_set_own | with_reducible apply bodyPost_set_own); (focus (first | (with_reducible apply Own.set; (focus (with_reducible apply hO)); (repeat (first | with_reducible exact Put.here _ _ _ | with_reducible apply Put.there)); done) | (with_reducible apply Own.setRow; (focus (with_reducible apply hO)); (focus (repeat (first | with_reducible exact Put.here _ _ _ | with_reducible apply Put.there))); first | assumption | (simp; omega) | (simp; assumption)) | ((repeat' (first | with_reducible apply hO | with_reducible apply Own.set)); all_goals (repeat (first | with_reducible exact Put.here _ _ _ | with_reducible apply Put.there)); done))))); clear hO; intro w9 hO; (try dsimp only [List.set] at hO); ((try clear hf); have hf := hO.facts; (try simp only [FX, Nat.zero_add, Nat.reduceAdd, and_true, true_and, List.map_cons, List.map_nil, List.cons_append, List.nil_append] at hf))))
    go_ret2
    exact ⟨rfl, hO.toExt⟩
  | false =>
    have HY : (⟨#[UInt8.ofNat (0 : Int).toNat, UInt8.ofNat (k.size : Int).toNat]⟩ : ByteArray) = x := HX.out.symm
    go_enter Tryd.func35, Tryd.ntmps35
    go_wp2_with (first | (go_at_call 33; (with_reducible apply Calls.mono (hC _); rintro e8 w8 ⟨rfl, hx8⟩; replace hO := hO.ext hx8; clear hx8; dsimp only; ((try clear hf); have hf := hO.facts; (try simp only [FX, Nat.zero_add, Nat.reduceAdd, and_true, true_and, List.map_cons, List.map_nil, List.cons_append, List.nil_append] at hf)))) | ((refine wpList_bytes_own4 hO (r := Var _ [.int .u8 0, .int .u8 (k.size : Int)] 5) (by repeat (first | with_reducible exact Pick.here _ _ | with_reducible apply Pick.there)) rfl (.tmp 18) 93 9 5 rfl Tryd.underlying93 Tryd.intU8 Tryd.underlying9 _ 0 2 2 [0, (k.size : Int)] rfl rfl (fun j u hj => Var.at (t := 5) (hO.factOf (r := Var _ [.int .u8 0, .int .u8 (k.size : Int)] 5) (by repeat (first | with_reducible exact Pick.here _ _ | with_reducible apply Pick.there))) j u hj) ?_; rw [push_two]); rw [HY]) | ((first | with_reducible refine wpList_alloc_own hO ?_ | with_reducible refine wpList_drew_own hO ?_ | with_reducible refine wp_alloc_own hO ?_ | with_reducible refine wp_drew_own hO ?_ | with_reducible refine bodyPost_alloc_own hO ?_ | with_reducible refine bodyPost_drew_own hO ?_ | ((first | with_reducible apply wpList_set_own | with_reducible apply wp_set_own | with_reducible apply bodyPost_set_own); (focus (first | (with_reducible apply Own.set; (focus (with_reducible apply hO)); (repeat (first | with_reducible exact Put.here _ _ _ | with_reducible apply Put.there)); done) | (with_reducible apply Own.setRow; (focus (with_reducible apply hO)); (focus (repeat (first | with_reducible exact Put.here _ _ _ | with_reducible apply Put.there))); first | assumption | (simp; omega) | (simp; assumption)) | ((repeat' (first | with_reducible apply hO | with_reducible apply Own.set)); all_goals (repeat (first | with_reducible exact Put.here _ _ _ | with_reducible apply Put.there)); done))))); clear hO; intro w9 hO; (try dsimp only [List.set] at hO); ((try clear hf); have hf := hO.facts; (try simp only [FX, Nat.zero_add, Nat.reduceAdd, and_true, true_and, List.map_cons, List.map_nil, List.cons_append, List.nil_append] at hf))))
    go_ret2
    exact ⟨rfl, hO.toExt⟩

end Go.Proofs.YtmjdgcgmlgbfjaaDoor
