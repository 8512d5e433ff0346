/- Package change and its reference: a change's faults, its bytes. -/
import Derived.Test.YtmjdgcgmlgbfjaaDoorCh
import Derived.Test.YtmjdgcgmlgbfjaaDoorRow4
import Derived.Test.YtmjdgcgmlgbfjaaDoorRow7
set_option linter.unusedVariables false
set_option linter.unusedSimpArgs false
namespace Go.Proofs.YtmjdgcgmlgbfjaaDoor
open Go.RowKit
/-- May it be a change? -/
def ChOk (c : Ch) : Prop := KeyOk c.key ∧ (c.gone = true → c.val.size = 0) ∧ c.val.size ≤ 40
open Classical in
noncomputable def chN (c : Ch) : Nat := if KeyOk c.key then (if c.gone = true ∧ c.val.size ≠ 0 then 3 else if 40 < c.val.size then 1 else 0) else 3
theorem chN_no {c : Ch} (h : ¬ KeyOk c.key) : chN c = 3 := if_neg h
theorem chN_gone {c : Ch} (h : KeyOk c.key) (h2 : c.gone = true) (h3 : c.val.size ≠ 0) : chN c = 3 := by unfold chN; rw [if_pos h, if_pos ⟨h2, h3⟩]
theorem chN_big {c : Ch} (h : KeyOk c.key) (h2 : c.gone = true → c.val.size = 0) (h3 : 40 < c.val.size) : chN c = 1 := by
  unfold chN; rw [if_pos h, if_neg (fun e => e.2 (h2 e.1)), if_pos h3]
theorem chN_ok {c : Ch} (h : ChOk c) : chN c = 0 := by
  unfold chN; rw [if_pos h.1, if_neg (fun e => e.2 (h.2.1 e.1)), if_neg (by have := h.2.2; omega)]
theorem chN_le (c : Ch) : chN c ≤ 3 := by
  unfold chN; split
  · split
    · omega
    · split <;> omega
  · omega
theorem chN_zero {c : Ch} : chN c = 0 ↔ ChOk c := by
  refine ⟨fun h => ?_, chN_ok⟩
  unfold chN at h
  split at h
  · rename_i h1
    split at h
    · cases h
    · rename_i h2
      split at h
      · cases h
      · rename_i h3
        refine ⟨h1, fun hg => ?_, by omega⟩
        by_cases hv : c.val.size = 0
        · exact hv
        · exact absurd ⟨hg, hv⟩ h2
  · cases h
theorem key_size {k : ByteArray} (h : KeyOk k) : k.size ≤ 15 := by
  rcases h with ⟨a, ha, rfl | rfl⟩ | ⟨q, n, hq, hn, rfl⟩
  · rw [ByteArray.size_append, ByteArray.size_append]; have := ha.2.1; show 1 + 1 + a.size ≤ 15; omega
  · rw [ByteArray.size_append, ByteArray.size_append]; have := ha.2.1; show 1 + 1 + a.size ≤ 15; omega
  · rw [ByteArray.size_append, ByteArray.size_append, ByteArray.size_append, ByteArray.size_append, six_size]; have := hq.2.1; show 1 + 1 + (q.size + 1 + 6) ≤ 15; omega
theorem size_list (d : ByteArray) : d.toList.length = d.size := by rw [ByteArray.toList_eq]; rfl
theorem list_nil {d : ByteArray} : d.toList = [] ↔ d.size = 0 := by rw [← List.length_eq_zero_iff, size_list]
set_option maxHeartbeats 2000000 in
set_option maxRecDepth 100000 in
theorem chCheck_any (c : Ch) (w : World) (h : LibOk w) (hs : c.key.size ≤ 300) (hv : c.val.size ≤ 1000) : Calls Tryd.prog 38 #[c.v] w fun e w' => e = .returned (errV (chN c)) ∧ Ext w w' := by
  have hO := lib_base h
  have hC := fun w h => check_any c.key w h (by omega)
  unfold Ch.v
  by_cases hk : KeyOk c.key
  · rw [keyN_yes hk, show errV 0 = .nilIface from rfl] at hC
    by_cases hg : c.gone = true ∧ c.val.size ≠ 0
    · rw [chN_gone hk hg.1 hg.2]
      have e : errV 3 = .iface 23 (.int .i64 3) := rfl
      rw [e]
      clear e
      have hvl : ¬ c.val.toList = [] := fun e => hg.2 (list_nil.1 e)
      obtain ⟨k, v, g⟩ := c
      obtain ⟨rfl, hg2⟩ := hg
      dsimp only at *
      go_enter Tryd.func38, Tryd.ntmps38
      go_wp2_with (first | (go_at_call 21; (with_reducible apply Calls.mono (hC _ (Own.immOf (φ := LibOk) hO (by repeat (first | with_reducible exact Pick.here _ _ | with_reducible apply Pick.there)))); rintro e8 w8 ⟨rfl, hx8⟩; replace hO := hO.ext hx8; clear hx8; dsimp only; ((try clear hf); have hf := hO.facts; (try simp only [FX, Nat.zero_add, Nat.reduceAdd, and_true, true_and, List.map_cons, List.map_nil, List.cons_append, List.nil_append] at hf)))) | ((first | with_reducible refine wpList_alloc_own hO ?_ | with_reducible refine wpList_drew_own hO ?_ | with_reducible refine wp_alloc_own hO ?_ | with_reducible refine wp_drew_own hO ?_ | with_reducible refine bodyPost_alloc_own hO ?_ | with_reducible refine bodyPost_drew_own hO ?_ | ((first | with_reducible apply wpList_set_own | with_reducible apply wp_set_own | with_reducible apply bodyPost_set_own); (focus (first | (with_reducible apply Own.set; (focus (with_reducible apply hO)); (repeat (first | with_reducible exact Put.here _ _ _ | with_reducible apply Put.there)); done) | (with_reducible apply Own.setRow; (focus (with_reducible apply hO)); (focus (repeat (first | with_reducible exact Put.here _ _ _ | with_reducible apply Put.there))); first | assumption | (simp; omega) | (simp; assumption)) | ((repeat' (first | with_reducible apply hO | with_reducible apply Own.set)); all_goals (repeat (first | with_reducible exact Put.here _ _ _ | with_reducible apply Put.there)); done))))); clear hO; intro w9 hO; (try dsimp only [List.set] at hO); ((try clear hf); have hf := hO.facts; (try simp only [FX, Nat.zero_add, Nat.reduceAdd, and_true, true_and, List.map_cons, List.map_nil, List.cons_append, List.nil_append] at hf))))
      all_goals first | (exfalso; omega) | (go_ret; exact ⟨rfl, hO.toExt⟩) | (exfalso; simp_all; done)
    · have hg' : c.gone = true → c.val.size = 0 := fun e => by
        by_cases hv : c.val.size = 0
        · exact hv
        · exact absurd ⟨e, hv⟩ hg
      by_cases hb : 40 < c.val.size
      · rw [chN_big hk hg' hb]
        have e : errV 1 = .iface 23 (.int .i64 1) := rfl
        rw [e]
        clear e
        obtain ⟨k, v, g⟩ := c
        cases g with
        | true => exact absurd (hg' rfl) (by dsimp only at *; omega)
        | false =>
          clear hg hg'
          dsimp only at *
          go_enter Tryd.func38, Tryd.ntmps38
          go_wp2_with (first | (go_at_call 21; (with_reducible apply Calls.mono (hC _ (Own.immOf (φ := LibOk) hO (by repeat (first | with_reducible exact Pick.here _ _ | with_reducible apply Pick.there)))); rintro e8 w8 ⟨rfl, hx8⟩; replace hO := hO.ext hx8; clear hx8; dsimp only; ((try clear hf); have hf := hO.facts; (try simp only [FX, Nat.zero_add, Nat.reduceAdd, and_true, true_and, List.map_cons, List.map_nil, List.cons_append, List.nil_append] at hf)))) | ((first | with_reducible refine wpList_alloc_own hO ?_ | with_reducible refine wpList_drew_own hO ?_ | with_reducible refine wp_alloc_own hO ?_ | with_reducible refine wp_drew_own hO ?_ | with_reducible refine bodyPost_alloc_own hO ?_ | with_reducible refine bodyPost_drew_own hO ?_ | ((first | with_reducible apply wpList_set_own | with_reducible apply wp_set_own | with_reducible apply bodyPost_set_own); (focus (first | (with_reducible apply Own.set; (focus (with_reducible apply hO)); (repeat (first | with_reducible exact Put.here _ _ _ | with_reducible apply Put.there)); done) | (with_reducible apply Own.setRow; (focus (with_reducible apply hO)); (focus (repeat (first | with_reducible exact Put.here _ _ _ | with_reducible apply Put.there))); first | assumption | (simp; omega) | (simp; assumption)) | ((repeat' (first | with_reducible apply hO | with_reducible apply Own.set)); all_goals (repeat (first | with_reducible exact Put.here _ _ _ | with_reducible apply Put.there)); done))))); clear hO; intro w9 hO; (try dsimp only [List.set] at hO); ((try clear hf); have hf := hO.facts; (try simp only [FX, Nat.zero_add, Nat.reduceAdd, and_true, true_and, List.map_cons, List.map_nil, List.cons_append, List.nil_append] at hf))))
          all_goals first | (exfalso; omega) | (go_ret; exact ⟨rfl, hO.toExt⟩) | (exfalso; simp_all; done)
      · rw [chN_ok ⟨hk, hg', by omega⟩, show errV 0 = .nilIface from rfl]
        obtain ⟨k, v, g⟩ := c
        cases g with
        | true =>
          have hvl : v.toList = [] := list_nil.2 (hg' rfl)
          clear hg hg'
          dsimp only at *
          go_enter Tryd.func38, Tryd.ntmps38
          go_wp2_with (first | (go_at_call 21; (with_reducible apply Calls.mono (hC _ (Own.immOf (φ := LibOk) hO (by repeat (first | with_reducible exact Pick.here _ _ | with_reducible apply Pick.there)))); rintro e8 w8 ⟨rfl, hx8⟩; replace hO := hO.ext hx8; clear hx8; dsimp only; ((try clear hf); have hf := hO.facts; (try simp only [FX, Nat.zero_add, Nat.reduceAdd, and_true, true_and, List.map_cons, List.map_nil, List.cons_append, List.nil_append] at hf)))) | ((first | with_reducible refine wpList_alloc_own hO ?_ | with_reducible refine wpList_drew_own hO ?_ | with_reducible refine wp_alloc_own hO ?_ | with_reducible refine wp_drew_own hO ?_ | with_reducible refine bodyPost_alloc_own hO ?_ | with_reducible refine bodyPost_drew_own hO ?_ | ((first | with_reducible apply wpList_set_own | with_reducible apply wp_set_own | with_reducible apply bodyPost_set_own); (focus (first | (with_reducible apply Own.set; (focus (with_reducible apply hO)); (repeat (first | with_reducible exact Put.here _ _ _ | with_reducible apply Put.there)); done) | (with_reducible apply Own.setRow; (focus (with_reducible apply hO)); (focus (repeat (first | with_reducible exact Put.here _ _ _ | with_reducible apply Put.there))); first | assumption | (simp; omega) | (simp; assumption)) | ((repeat' (first | with_reducible apply hO | with_reducible apply Own.set)); all_goals (repeat (first | with_reducible exact Put.here _ _ _ | with_reducible apply Put.there)); done))))); clear hO; intro w9 hO; (try dsimp only [List.set] at hO); ((try clear hf); have hf := hO.facts; (try simp only [FX, Nat.zero_add, Nat.reduceAdd, and_true, true_and, List.map_cons, List.map_nil, List.cons_append, List.nil_append] at hf))))
          all_goals first | (exfalso; omega) | (go_ret; exact ⟨rfl, hO.toExt⟩) | (exfalso; simp_all; done)
        | false =>
          clear hg hg'
          dsimp only at *
          go_enter Tryd.func38, Tryd.ntmps38
          go_wp2_with (first | (go_at_call 21; (with_reducible apply Calls.mono (hC _ (Own.immOf (φ := LibOk) hO (by repeat (first | with_reducible exact Pick.here _ _ | with_reducible apply Pick.there)))); rintro e8 w8 ⟨rfl, hx8⟩; replace hO := hO.ext hx8; clear hx8; dsimp only; ((try clear hf); have hf := hO.facts; (try simp only [FX, Nat.zero_add, Nat.reduceAdd, and_true, true_and, List.map_cons, List.map_nil, List.cons_append, List.nil_append] at hf)))) | ((first | with_reducible refine wpList_alloc_own hO ?_ | with_reducible refine wpList_drew_own hO ?_ | with_reducible refine wp_alloc_own hO ?_ | with_reducible refine wp_drew_own hO ?_ | with_reducible refine bodyPost_alloc_own hO ?_ | with_reducible refine bodyPost_drew_own hO ?_ | ((first | with_reducible apply wpList_set_own | with_reducible apply wp_set_own | with_reducible apply bodyPost_set_own); (focus (first | (with_reducible apply Own.set; (focus (with_reducible apply hO)); (repeat (first | with_reducible exact Put.here _ _ _ | with_reducible apply Put.there)); done) | (with_reducible apply Own.setRow; (focus (with_reducible apply hO)); (focus (repeat (first | with_reducible exact Put.here _ _ _ | with_reducible apply Put.there))); first | assumption | (simp; omega) | (simp; assumption)) | ((repeat' (first | with_reducible apply hO | with_reducible apply Own.set)); all_goals (repeat (first | with_reducible exact Put.here _ _ _ | with_reducible apply Put.there)); done))))); clear hO; intro w9 hO; (try dsimp only [List.set] at hO); ((try clear hf); have hf := hO.facts; (try simp only [FX, Nat.zero_add, Nat.reduceAdd, and_true, true_and, List.map_cons, List.map_nil, List.cons_append, List.nil_append] at hf))))
          all_goals first | (exfalso; omega) | (go_ret; exact ⟨rfl, hO.toExt⟩) | (exfalso; simp_all; done)
  · rw [chN_no hk]
    rw [keyN_no hk] at hC
    have e : errV 3 = .iface 23 (.int .i64 3) := rfl
    rw [e] at hC ⊢
    clear e
    go_enter Tryd.func38, Tryd.ntmps38
    go_wp2_with (first | (go_at_call 21; (with_reducible apply Calls.mono (hC _ (Own.immOf (φ := LibOk) hO (by repeat (first | with_reducible exact Pick.here _ _ | with_reducible apply Pick.there)))); rintro e8 w8 ⟨rfl, hx8⟩; replace hO := hO.ext hx8; clear hx8; dsimp only; ((try clear hf); have hf := hO.facts; (try simp only [FX, Nat.zero_add, Nat.reduceAdd, and_true, true_and, List.map_cons, List.map_nil, List.cons_append, List.nil_append] at hf)))) | ((first | with_reducible refine wpList_alloc_own hO ?_ | with_reducible refine wpList_drew_own hO ?_ | with_reducible refine wp_alloc_own hO ?_ | with_reducible refine wp_drew_own hO ?_ | with_reducible refine bodyPost_alloc_own hO ?_ | with_reducible refine bodyPost_drew_own hO ?_ | ((first | with_reducible apply wpList_set_own | with_reducible apply wp_set_own | with_reducible apply bodyPost_set_own); (focus (first | (with_reducible apply Own.set; (focus (with_reducible apply hO)); (repeat (first | with_reducible exact Put.here _ _ _ | with_reducible apply Put.there)); done) | (with_reducible apply Own.setRow; (focus (with_reducible apply hO)); (focus (repeat (first | with_reducible exact Put.here _ _ _ | with_reducible apply Put.there))); first | assumption | (simp; omega) | (simp; assumption)) | ((repeat' (first | with_reducible apply hO | with_reducible apply Own.set)); all_goals (repeat (first | with_reducible exact Put.here _ _ _ | with_reducible apply Put.there)); done))))); clear hO; intro w9 hO; (try dsimp only [List.set] at hO); ((try clear hf); have hf := hO.facts; (try simp only [FX, Nat.zero_add, Nat.reduceAdd, and_true, true_and, List.map_cons, List.map_nil, List.cons_append, List.nil_append] at hf))))
    all_goals first | (exfalso; omega) | (go_ret; exact ⟨rfl, hO.toExt⟩) | (exfalso; simp_all; done)
end Go.Proofs.YtmjdgcgmlgbfjaaDoor
