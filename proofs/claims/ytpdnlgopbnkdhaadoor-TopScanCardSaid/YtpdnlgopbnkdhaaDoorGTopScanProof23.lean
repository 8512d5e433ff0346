/- Texts Bsf, Dl of this claim, laid together. -/
import Derived.Test.YtpdnlgopbnkdhaaDoorGTopScanProof11
import Derived.Test.YtpdnlgopbnkdhaaDoorGTopScanProof19
set_option linter.unusedVariables false
set_option linter.unusedSimpArgs false
namespace Go.Proofs.YtpdnlgopbnkdhaaDoor
open Go.RowKit
def cmpZ (a b : ByteArray) : Int := Lib.compareBytes a.data.toList b.data.toList
theorem cmpL : ∀ a b : List UInt8, (Op.bytesLess a b = true ∧ Lib.compareBytes a b = -1) ∨ (a = b ∧ Lib.compareBytes a b = 0) ∨ (Op.bytesLess b a = true ∧ Lib.compareBytes a b = 1)
  | [], [] => .inr (.inl ⟨rfl, rfl⟩)
  | [], _ :: _ => .inl ⟨rfl, rfl⟩
  | _ :: _, [] => .inr (.inr ⟨rfl, rfl⟩)
  | a :: x, b :: y => by
    unfold Lib.compareBytes
    by_cases h : a < b
    · exact .inl ⟨by simp [Op.bytesLess, h], by rw [if_pos h]⟩
    · by_cases h2 : b < a
      · exact .inr (.inr ⟨by simp [Op.bytesLess, h2], by rw [if_neg h, if_pos h2]⟩)
      · obtain rfl : a = b := by
          have h : ¬ a.toNat < b.toNat := fun e => h (UInt8.lt_iff_toNat_lt.2 e)
          have h2 : ¬ b.toNat < a.toNat := fun e => h2 (UInt8.lt_iff_toNat_lt.2 e)
          exact UInt8.toNat_inj.1 (by omega)
        rw [if_neg h, if_neg h]
        rcases cmpL x y with ⟨k1, k2⟩ | ⟨k1, k2⟩ | ⟨k1, k2⟩
        · exact .inl ⟨by simp [Op.bytesLess, k1], k2⟩
        · exact .inr (.inl ⟨by rw [k1], k2⟩)
        · exact .inr (.inr ⟨by simp [Op.bytesLess, k1], k2⟩)
theorem cmpZ_spec (a b : ByteArray) : (slt a b = true ∧ cmpZ a b = -1) ∨ (a = b ∧ cmpZ a b = 0) ∨ (slt b a = true ∧ cmpZ a b = 1) := by
  unfold cmpZ slt
  rw [ByteArray.toList_eq, ByteArray.toList_eq]
  exact (cmpL a.data.toList b.data.toList).imp id (Or.imp (fun h => ⟨toList_inj (by rw [ByteArray.toList_eq, ByteArray.toList_eq]; exact h.1), h.2⟩) id)
theorem cmpZ_lt (a b : ByteArray) : decide (cmpZ a b < 0) = slt a b := by
  rcases cmpZ_spec a b with ⟨h1, h2⟩ | ⟨h1, h2⟩ | ⟨h1, h2⟩
  · rw [h1, h2]; rfl
  · rw [h2, h1, slt_irrefl]; rfl
  · rw [h2, slt_asymm h1]; rfl
theorem cmpZ_eq (a b : ByteArray) : (cmpZ a b == 0) = decide (a = b) := by
  rcases cmpZ_spec a b with ⟨h1, h2⟩ | ⟨h1, h2⟩ | ⟨h1, h2⟩
  · rw [h2, decide_eq_false (slt_ne h1)]; rfl
  · rw [h2, decide_eq_true h1]; rfl
  · rw [h2, decide_eq_false (slt_ne h1).symm]; rfl
theorem vals_up {w w' : World} {a : Option Addr} {xs : List Value} (h : ValsAt w a xs) (hb : ∀ b, b < w.heap.size → w'.heap[b]? = w.heap[b]?) : ValsAt w' a xs :=
  h.imp id fun ⟨b, off, ha, hc⟩ => ⟨b, off, ha, fun i hi => by
    have h1 := hc i hi
    have hl : b < w.heap.size := block_lt_of_cell h1
    rw [World.cell?_of_block (w := w) (hb _ hl)]; exact h1⟩
theorem vals_base {w : World} {a : Option Addr} {xs : List Value} (S : Nat → Prop) (h : ValsAt w a xs) : Own S w w [.imm fun w => ValsAt w a xs] := Own.base w S fun _ hw' => vals_up h hw'
def isAt (l : List Ch) (k : ByteArray) : Bool := (findC l k).isSome
theorem Ups.isAt_at {l : List Ch} {k : ByteArray} (h : Ups l) (hi : idxC l k < l.length) : isAt l k = decide (l[idxC l k].key = k) := by
  unfold isAt
  by_cases he : l[idxC l k].key = k
  · rw [h.find_yes hi he, decide_eq_true he]; rfl
  · rw [h.find_no (fun _ => he), decide_eq_false he]; rfl
theorem Ups.isAt_end {l : List Ch} {k : ByteArray} (h : Ups l) (hi : l.length ≤ idxC l k) : isAt l k = false := by
  unfold isAt
  rw [h.find_no (fun hi' => by omega)]; rfl
set_option maxHeartbeats 1000000 in
set_option maxRecDepth 100000 in
theorem cmpPut_any (x : Ch) (k : ByteArray) (w : World) : Calls Tryd.prog 121 #[x.v, .string k] w fun e w' => e = .returned (.int .i64 (cmpZ x.key k)) ∧ Ext w w' := by
  unfold Ch.v
  have hO := Own.start w (fun _ => False)
  have hc := fun w => Tryd.strings_Compare x.key k w
  rw [show Lib.compareBytes x.key.data.toList k.data.toList = cmpZ x.key k from rfl] at hc
  go_enter Tryd.func121, Tryd.ntmps121
  go_wp2_with (first | (go_at_call 80; (with_reducible apply Calls.mono (hc _); rintro e8 w8 ⟨rfl, rfl⟩; dsimp only)) | ((first | with_reducible refine wpList_alloc_own hO ?_ | with_reducible refine wpList_drew_own hO ?_ | with_reducible refine wp_alloc_own hO ?_ | with_reducible refine wp_drew_own hO ?_ | with_reducible refine bodyPost_alloc_own hO ?_ | with_reducible refine bodyPost_drew_own hO ?_ | ((first | with_reducible apply wpList_set_own | with_reducible apply wp_set_own | with_reducible apply bodyPost_set_own); (focus (first | (with_reducible apply Own.set; (focus (with_reducible apply hO)); (repeat (first | with_reducible exact Put.here _ _ _ | with_reducible apply Put.there)); done) | (with_reducible apply Own.setRow; (focus (with_reducible apply hO)); (focus (repeat (first | with_reducible exact Put.here _ _ _ | with_reducible apply Put.there))); first | assumption | (simp; omega) | (simp; assumption)) | ((repeat' (first | with_reducible apply hO | with_reducible apply Own.set)); all_goals (repeat (first | with_reducible exact Put.here _ _ _ | with_reducible apply Put.there)); done))))); clear hO; intro w9 hO; (try dsimp only [List.set] at hO); ((try clear hf); have hf := hO.facts; (try simp only [FX, Nat.zero_add, Nat.reduceAdd, and_true, true_and, List.map_cons, List.map_nil, List.cons_append, List.nil_append] at hf))))
  go_ret
  exact ⟨rfl, hO.toExt⟩

set_option maxHeartbeats 1000000 in
set_option maxRecDepth 100000 in
theorem cmpFind_any (x : Ch) (k : ByteArray) (w : World) : Calls Tryd.prog 105 #[x.v, .string k] w fun e w' => e = .returned (.int .i64 (cmpZ x.key k)) ∧ Ext w w' := by
  unfold Ch.v
  have hO := Own.start w (fun _ => False)
  have hc := fun w => Tryd.strings_Compare x.key k w
  rw [show Lib.compareBytes x.key.data.toList k.data.toList = cmpZ x.key k from rfl] at hc
  go_enter Tryd.func105, Tryd.ntmps105
  go_wp2_with (first | (go_at_call 80; (with_reducible apply Calls.mono (hc _); rintro e8 w8 ⟨rfl, rfl⟩; dsimp only)) | ((first | with_reducible refine wpList_alloc_own hO ?_ | with_reducible refine wpList_drew_own hO ?_ | with_reducible refine wp_alloc_own hO ?_ | with_reducible refine wp_drew_own hO ?_ | with_reducible refine bodyPost_alloc_own hO ?_ | with_reducible refine bodyPost_drew_own hO ?_ | ((first | with_reducible apply wpList_set_own | with_reducible apply wp_set_own | with_reducible apply bodyPost_set_own); (focus (first | (with_reducible apply Own.set; (focus (with_reducible apply hO)); (repeat (first | with_reducible exact Put.here _ _ _ | with_reducible apply Put.there)); done) | (with_reducible apply Own.setRow; (focus (with_reducible apply hO)); (focus (repeat (first | with_reducible exact Put.here _ _ _ | with_reducible apply Put.there))); first | assumption | (simp; omega) | (simp; assumption)) | ((repeat' (first | with_reducible apply hO | with_reducible apply Own.set)); all_goals (repeat (first | with_reducible exact Put.here _ _ _ | with_reducible apply Put.there)); done))))); clear hO; intro w9 hO; (try dsimp only [List.set] at hO); ((try clear hf); have hf := hO.facts; (try simp only [FX, Nat.zero_add, Nat.reduceAdd, and_true, true_and, List.map_cons, List.map_nil, List.cons_append, List.nil_append] at hf))))
  go_ret
  exact ⟨rfl, hO.toExt⟩

set_option maxHeartbeats 2000000 in
set_option maxRecDepth 100000 in
theorem bsfPut_any (a : Option Addr) (n c : Nat) (l : List Ch) (k : ByteArray) (w : World) (hl : l.length = n) (hn : n ≤ 1000) (hA : ChAt w a l) (hU : Ups l) :
    Calls Tryd.prog 104 #[.slice a n c, .string k, .func (.func 121) #[] #[]] w fun e w' => e = .returned (.tuple #[.int .i64 (idxC l k), .bool (isAt l k)]) ∧ Ext w w' := by
  have hO := vals_base (fun _ => False) hA
  ((try clear hf); have hf := hO.facts; (try simp only [FX, Nat.zero_add, Nat.reduceAdd, and_true, true_and, List.map_cons, List.map_nil, List.cons_append, List.nil_append] at hf))
  go_enter Tryd.func104, Tryd.ntmps104
  go_wp2_with (first | ((first | with_reducible refine wpList_alloc_own hO ?_ | with_reducible refine wpList_drew_own hO ?_ | with_reducible refine wp_alloc_own hO ?_ | with_reducible refine wp_drew_own hO ?_ | with_reducible refine bodyPost_alloc_own hO ?_ | with_reducible refine bodyPost_drew_own hO ?_ | ((first | with_reducible apply wpList_set_own | with_reducible apply wp_set_own | with_reducible apply bodyPost_set_own); (focus (first | (with_reducible apply Own.set; (focus (with_reducible apply hO)); (repeat (first | with_reducible exact Put.here _ _ _ | with_reducible apply Put.there)); done) | (with_reducible apply Own.setRow; (focus (with_reducible apply hO)); (focus (repeat (first | with_reducible exact Put.here _ _ _ | with_reducible apply Put.there))); first | assumption | (simp; omega) | (simp; assumption)) | ((repeat' (first | with_reducible apply hO | with_reducible apply Own.set)); all_goals (repeat (first | with_reducible exact Put.here _ _ _ | with_reducible apply Put.there)); done))))); clear hO; intro w9 hO; (try dsimp only [List.set] at hO); ((try clear hf); have hf := hO.facts; (try simp only [FX, Nat.zero_add, Nat.reduceAdd, and_true, true_and, List.map_cons, List.map_nil, List.cons_append, List.nil_append] at hf))))
  go_loopw [9, 10, 11] (fun v9 v10 v11 wr => ∃ i j : Nat, v9 = .int .i64 i ∧ v10 = .int .i64 j ∧ i ≤ idxC l k ∧ idxC l k ≤ j ∧ j ≤ n ∧ Own (fun _ => False) w wr [.imm fun w => ValsAt w a (chs l)]) (fun v9 v10 _ _ => (intOf v10).toNat - (intOf v9).toNat)
  case atStart => exact ⟨0, n, rfl, rfl, by omega, hl ▸ idxC_le l k, by omega, hO⟩
  case round =>
    obtain ⟨i, j, rfl, rfl, h1, h2, h3, hO⟩ := hrel
    rename World => w0
    ((try clear hf); have hf := hO.facts; (try simp only [FX, Nat.zero_add, Nat.reduceAdd, and_true, true_and, List.map_cons, List.map_nil, List.cons_append, List.nil_append] at hf))
    by_cases hlt : i < j
    · have hm : (i + j) / 2 < l.length := by omega
      have hlow := hU.at_low k hm
      obtain ⟨b, off, rfl⟩ := ChAt.some (a := a) hf (by omega)
      have hc := ChAt.at (b := b) (off := off) hf hm
      rw [← cmpZ_lt] at hlow
      obtain ⟨c0, c1, c2⟩ := hc
      have hgx := cmpPut_any l[(i + j) / 2] k
      generalize hx : l[(i + j) / 2] = x at *
      unfold Ch.v at hgx
      by_cases hk : (i + j) / 2 < idxC l k
      · have hz : cmpZ x.key k < 0 := of_decide_eq_true (by rw [hlow, decide_eq_true hk])
        clear hlow
        go_wp2_with (first | (go_at_call 121; (with_reducible apply Calls.mono (hgx _); rintro e8 w8 ⟨rfl, hx8⟩; replace hO := hO.ext hx8; clear hx8; dsimp only; ((try clear hf); have hf := hO.facts; (try simp only [FX, Nat.zero_add, Nat.reduceAdd, and_true, true_and, List.map_cons, List.map_nil, List.cons_append, List.nil_append] at hf)))) | ((first | with_reducible refine wpList_alloc_own hO ?_ | with_reducible refine wpList_drew_own hO ?_ | with_reducible refine wp_alloc_own hO ?_ | with_reducible refine wp_drew_own hO ?_ | with_reducible refine bodyPost_alloc_own hO ?_ | with_reducible refine bodyPost_drew_own hO ?_ | ((first | with_reducible apply wpList_set_own | with_reducible apply wp_set_own | with_reducible apply bodyPost_set_own); (focus (first | (with_reducible apply Own.set; (focus (with_reducible apply hO)); (repeat (first | with_reducible exact Put.here _ _ _ | with_reducible apply Put.there)); done) | (with_reducible apply Own.setRow; (focus (with_reducible apply hO)); (focus (repeat (first | with_reducible exact Put.here _ _ _ | with_reducible apply Put.there))); first | assumption | (simp; omega) | (simp; assumption)) | ((repeat' (first | with_reducible apply hO | with_reducible apply Own.set)); all_goals (repeat (first | with_reducible exact Put.here _ _ _ | with_reducible apply Put.there)); done))))); clear hO; intro w9 hO; (try dsimp only [List.set] at hO); ((try clear hf); have hf := hO.facts; (try simp only [FX, Nat.zero_add, Nat.reduceAdd, and_true, true_and, List.map_cons, List.map_nil, List.cons_append, List.nil_append] at hf))))
        exact ⟨⟨(i + j) / 2 + 1, j, by go_num, rfl, by omega, h2, h3, hO⟩, by simp [intOf]; omega⟩
      · have hz : ¬ cmpZ x.key k < 0 := of_decide_eq_false (by rw [hlow, decide_eq_false hk])
        clear hlow
        go_wp2_with (first | (go_at_call 121; (with_reducible apply Calls.mono (hgx _); rintro e8 w8 ⟨rfl, hx8⟩; replace hO := hO.ext hx8; clear hx8; dsimp only; ((try clear hf); have hf := hO.facts; (try simp only [FX, Nat.zero_add, Nat.reduceAdd, and_true, true_and, List.map_cons, List.map_nil, List.cons_append, List.nil_append] at hf)))) | ((first | with_reducible refine wpList_alloc_own hO ?_ | with_reducible refine wpList_drew_own hO ?_ | with_reducible refine wp_alloc_own hO ?_ | with_reducible refine wp_drew_own hO ?_ | with_reducible refine bodyPost_alloc_own hO ?_ | with_reducible refine bodyPost_drew_own hO ?_ | ((first | with_reducible apply wpList_set_own | with_reducible apply wp_set_own | with_reducible apply bodyPost_set_own); (focus (first | (with_reducible apply Own.set; (focus (with_reducible apply hO)); (repeat (first | with_reducible exact Put.here _ _ _ | with_reducible apply Put.there)); done) | (with_reducible apply Own.setRow; (focus (with_reducible apply hO)); (focus (repeat (first | with_reducible exact Put.here _ _ _ | with_reducible apply Put.there))); first | assumption | (simp; omega) | (simp; assumption)) | ((repeat' (first | with_reducible apply hO | with_reducible apply Own.set)); all_goals (repeat (first | with_reducible exact Put.here _ _ _ | with_reducible apply Put.there)); done))))); clear hO; intro w9 hO; (try dsimp only [List.set] at hO); ((try clear hf); have hf := hO.facts; (try simp only [FX, Nat.zero_add, Nat.reduceAdd, and_true, true_and, List.map_cons, List.map_nil, List.cons_append, List.nil_append] at hf))))
        exact ⟨⟨i, (i + j) / 2, rfl, by go_num, h1, by omega, by omega, hO⟩, by simp [intOf]; omega⟩
    · obtain rfl : i = idxC l k := by omega
      obtain rfl : j = idxC l k := by omega
      by_cases hi : idxC l k < l.length
      · obtain ⟨b, off, rfl⟩ := ChAt.some (a := a) hf (by omega)
        obtain ⟨c0, c1, c2⟩ := ChAt.at (b := b) (off := off) hf hi
        have hgx := cmpPut_any l[idxC l k] k
        have he := hU.isAt_at hi
        rw [← cmpZ_eq] at he
        generalize hx : l[idxC l k] = x at *
        unfold Ch.v at hgx
        go_wp2_with (first | (go_at_call 121; (with_reducible apply Calls.mono (hgx _); rintro e8 w8 ⟨rfl, hx8⟩; replace hO := hO.ext hx8; clear hx8; dsimp only; ((try clear hf); have hf := hO.facts; (try simp only [FX, Nat.zero_add, Nat.reduceAdd, and_true, true_and, List.map_cons, List.map_nil, List.cons_append, List.nil_append] at hf)))) | ((first | with_reducible refine wpList_alloc_own hO ?_ | with_reducible refine wpList_drew_own hO ?_ | with_reducible refine wp_alloc_own hO ?_ | with_reducible refine wp_drew_own hO ?_ | with_reducible refine bodyPost_alloc_own hO ?_ | with_reducible refine bodyPost_drew_own hO ?_ | ((first | with_reducible apply wpList_set_own | with_reducible apply wp_set_own | with_reducible apply bodyPost_set_own); (focus (first | (with_reducible apply Own.set; (focus (with_reducible apply hO)); (repeat (first | with_reducible exact Put.here _ _ _ | with_reducible apply Put.there)); done) | (with_reducible apply Own.setRow; (focus (with_reducible apply hO)); (focus (repeat (first | with_reducible exact Put.here _ _ _ | with_reducible apply Put.there))); first | assumption | (simp; omega) | (simp; assumption)) | ((repeat' (first | with_reducible apply hO | with_reducible apply Own.set)); all_goals (repeat (first | with_reducible exact Put.here _ _ _ | with_reducible apply Put.there)); done))))); clear hO; intro w9 hO; (try dsimp only [List.set] at hO); ((try clear hf); have hf := hO.facts; (try simp only [FX, Nat.zero_add, Nat.reduceAdd, and_true, true_and, List.map_cons, List.map_nil, List.cons_append, List.nil_append] at hf))))
        go_ret2
        exact ⟨by rw [he]; rfl, hO.toExt⟩
      · have he := hU.isAt_end (k := k) (by omega)
        go_wp2_with (first | ((first | with_reducible refine wpList_alloc_own hO ?_ | with_reducible refine wpList_drew_own hO ?_ | with_reducible refine wp_alloc_own hO ?_ | with_reducible refine wp_drew_own hO ?_ | with_reducible refine bodyPost_alloc_own hO ?_ | with_reducible refine bodyPost_drew_own hO ?_ | ((first | with_reducible apply wpList_set_own | with_reducible apply wp_set_own | with_reducible apply bodyPost_set_own); (focus (first | (with_reducible apply Own.set; (focus (with_reducible apply hO)); (repeat (first | with_reducible exact Put.here _ _ _ | with_reducible apply Put.there)); done) | (with_reducible apply Own.setRow; (focus (with_reducible apply hO)); (focus (repeat (first | with_reducible exact Put.here _ _ _ | with_reducible apply Put.there))); first | assumption | (simp; omega) | (simp; assumption)) | ((repeat' (first | with_reducible apply hO | with_reducible apply Own.set)); all_goals (repeat (first | with_reducible exact Put.here _ _ _ | with_reducible apply Put.there)); done))))); clear hO; intro w9 hO; (try dsimp only [List.set] at hO); ((try clear hf); have hf := hO.facts; (try simp only [FX, Nat.zero_add, Nat.reduceAdd, and_true, true_and, List.map_cons, List.map_nil, List.cons_append, List.nil_append] at hf))))
        go_ret2
        exact ⟨by rw [he]; rfl, hO.toExt⟩

set_option maxHeartbeats 2000000 in
set_option maxRecDepth 100000 in
theorem bsfFind_any (a : Option Addr) (n c : Nat) (l : List Ch) (k : ByteArray) (w : World) (hl : l.length = n) (hn : n ≤ 1000) (hA : ChAt w a l) (hU : Ups l) :
    Calls Tryd.prog 104 #[.slice a n c, .string k, .func (.func 105) #[] #[]] w fun e w' => e = .returned (.tuple #[.int .i64 (idxC l k), .bool (isAt l k)]) ∧ Ext w w' := by
  have hO := vals_base (fun _ => False) hA
  ((try clear hf); have hf := hO.facts; (try simp only [FX, Nat.zero_add, Nat.reduceAdd, and_true, true_and, List.map_cons, List.map_nil, List.cons_append, List.nil_append] at hf))
  go_enter Tryd.func104, Tryd.ntmps104
  go_wp2_with (first | ((first | with_reducible refine wpList_alloc_own hO ?_ | with_reducible refine wpList_drew_own hO ?_ | with_reducible refine wp_alloc_own hO ?_ | with_reducible refine wp_drew_own hO ?_ | with_reducible refine bodyPost_alloc_own hO ?_ | with_reducible refine bodyPost_drew_own hO ?_ | ((first | with_reducible apply wpList_set_own | with_reducible apply wp_set_own | with_reducible apply bodyPost_set_own); (focus (first | (with_reducible apply Own.set; (focus (with_reducible apply hO)); (repeat (first | with_reducible exact Put.here _ _ _ | with_reducible apply Put.there)); done) | (with_reducible apply Own.setRow; (focus (with_reducible apply hO)); (focus (repeat (first | with_reducible exact Put.here _ _ _ | with_reducible apply Put.there))); first | assumption | (simp; omega) | (simp; assumption)) | ((repeat' (first | with_reducible apply hO | with_reducible apply Own.set)); all_goals (repeat (first | with_reducible exact Put.here _ _ _ | with_reducible apply Put.there)); done))))); clear hO; intro w9 hO; (try dsimp only [List.set] at hO); ((try clear hf); have hf := hO.facts; (try simp only [FX, Nat.zero_add, Nat.reduceAdd, and_true, true_and, List.map_cons, List.map_nil, List.cons_append, List.nil_append] at hf))))
  go_loopw [9, 10, 11] (fun v9 v10 v11 wr => ∃ i j : Nat, v9 = .int .i64 i ∧ v10 = .int .i64 j ∧ i ≤ idxC l k ∧ idxC l k ≤ j ∧ j ≤ n ∧ Own (fun _ => False) w wr [.imm fun w => ValsAt w a (chs l)]) (fun v9 v10 _ _ => (intOf v10).toNat - (intOf v9).toNat)
  case atStart => exact ⟨0, n, rfl, rfl, by omega, hl ▸ idxC_le l k, by omega, hO⟩
  case round =>
    obtain ⟨i, j, rfl, rfl, h1, h2, h3, hO⟩ := hrel
    rename World => w0
    ((try clear hf); have hf := hO.facts; (try simp only [FX, Nat.zero_add, Nat.reduceAdd, and_true, true_and, List.map_cons, List.map_nil, List.cons_append, List.nil_append] at hf))
    by_cases hlt : i < j
    · have hm : (i + j) / 2 < l.length := by omega
      have hlow := hU.at_low k hm
      obtain ⟨b, off, rfl⟩ := ChAt.some (a := a) hf (by omega)
      have hc := ChAt.at (b := b) (off := off) hf hm
      rw [← cmpZ_lt] at hlow
      obtain ⟨c0, c1, c2⟩ := hc
      have hgx := cmpFind_any l[(i + j) / 2] k
      generalize hx : l[(i + j) / 2] = x at *
      unfold Ch.v at hgx
      by_cases hk : (i + j) / 2 < idxC l k
      · have hz : cmpZ x.key k < 0 := of_decide_eq_true (by rw [hlow, decide_eq_true hk])
        clear hlow
        go_wp2_with (first | (go_at_call 105; (with_reducible apply Calls.mono (hgx _); rintro e8 w8 ⟨rfl, hx8⟩; replace hO := hO.ext hx8; clear hx8; dsimp only; ((try clear hf); have hf := hO.facts; (try simp only [FX, Nat.zero_add, Nat.reduceAdd, and_true, true_and, List.map_cons, List.map_nil, List.cons_append, List.nil_append] at hf)))) | ((first | with_reducible refine wpList_alloc_own hO ?_ | with_reducible refine wpList_drew_own hO ?_ | with_reducible refine wp_alloc_own hO ?_ | with_reducible refine wp_drew_own hO ?_ | with_reducible refine bodyPost_alloc_own hO ?_ | with_reducible refine bodyPost_drew_own hO ?_ | ((first | with_reducible apply wpList_set_own | with_reducible apply wp_set_own | with_reducible apply bodyPost_set_own); (focus (first | (with_reducible apply Own.set; (focus (with_reducible apply hO)); (repeat (first | with_reducible exact Put.here _ _ _ | with_reducible apply Put.there)); done) | (with_reducible apply Own.setRow; (focus (with_reducible apply hO)); (focus (repeat (first | with_reducible exact Put.here _ _ _ | with_reducible apply Put.there))); first | assumption | (simp; omega) | (simp; assumption)) | ((repeat' (first | with_reducible apply hO | with_reducible apply Own.set)); all_goals (repeat (first | with_reducible exact Put.here _ _ _ | with_reducible apply Put.there)); done))))); clear hO; intro w9 hO; (try dsimp only [List.set] at hO); ((try clear hf); have hf := hO.facts; (try simp only [FX, Nat.zero_add, Nat.reduceAdd, and_true, true_and, List.map_cons, List.map_nil, List.cons_append, List.nil_append] at hf))))
        exact ⟨⟨(i + j) / 2 + 1, j, by go_num, rfl, by omega, h2, h3, hO⟩, by simp [intOf]; omega⟩
      · have hz : ¬ cmpZ x.key k < 0 := of_decide_eq_false (by rw [hlow, decide_eq_false hk])
        clear hlow
        go_wp2_with (first | (go_at_call 105; (with_reducible apply Calls.mono (hgx _); rintro e8 w8 ⟨rfl, hx8⟩; replace hO := hO.ext hx8; clear hx8; dsimp only; ((try clear hf); have hf := hO.facts; (try simp only [FX, Nat.zero_add, Nat.reduceAdd, and_true, true_and, List.map_cons, List.map_nil, List.cons_append, List.nil_append] at hf)))) | ((first | with_reducible refine wpList_alloc_own hO ?_ | with_reducible refine wpList_drew_own hO ?_ | with_reducible refine wp_alloc_own hO ?_ | with_reducible refine wp_drew_own hO ?_ | with_reducible refine bodyPost_alloc_own hO ?_ | with_reducible refine bodyPost_drew_own hO ?_ | ((first | with_reducible apply wpList_set_own | with_reducible apply wp_set_own | with_reducible apply bodyPost_set_own); (focus (first | (with_reducible apply Own.set; (focus (with_reducible apply hO)); (repeat (first | with_reducible exact Put.here _ _ _ | with_reducible apply Put.there)); done) | (with_reducible apply Own.setRow; (focus (with_reducible apply hO)); (focus (repeat (first | with_reducible exact Put.here _ _ _ | with_reducible apply Put.there))); first | assumption | (simp; omega) | (simp; assumption)) | ((repeat' (first | with_reducible apply hO | with_reducible apply Own.set)); all_goals (repeat (first | with_reducible exact Put.here _ _ _ | with_reducible apply Put.there)); done))))); clear hO; intro w9 hO; (try dsimp only [List.set] at hO); ((try clear hf); have hf := hO.facts; (try simp only [FX, Nat.zero_add, Nat.reduceAdd, and_true, true_and, List.map_cons, List.map_nil, List.cons_append, List.nil_append] at hf))))
        exact ⟨⟨i, (i + j) / 2, rfl, by go_num, h1, by omega, by omega, hO⟩, by simp [intOf]; omega⟩
    · obtain rfl : i = idxC l k := by omega
      obtain rfl : j = idxC l k := by omega
      by_cases hi : idxC l k < l.length
      · obtain ⟨b, off, rfl⟩ := ChAt.some (a := a) hf (by omega)
        obtain ⟨c0, c1, c2⟩ := ChAt.at (b := b) (off := off) hf hi
        have hgx := cmpFind_any l[idxC l k] k
        have he := hU.isAt_at hi
        rw [← cmpZ_eq] at he
        generalize hx : l[idxC l k] = x at *
        unfold Ch.v at hgx
        go_wp2_with (first | (go_at_call 105; (with_reducible apply Calls.mono (hgx _); rintro e8 w8 ⟨rfl, hx8⟩; replace hO := hO.ext hx8; clear hx8; dsimp only; ((try clear hf); have hf := hO.facts; (try simp only [FX, Nat.zero_add, Nat.reduceAdd, and_true, true_and, List.map_cons, List.map_nil, List.cons_append, List.nil_append] at hf)))) | ((first | with_reducible refine wpList_alloc_own hO ?_ | with_reducible refine wpList_drew_own hO ?_ | with_reducible refine wp_alloc_own hO ?_ | with_reducible refine wp_drew_own hO ?_ | with_reducible refine bodyPost_alloc_own hO ?_ | with_reducible refine bodyPost_drew_own hO ?_ | ((first | with_reducible apply wpList_set_own | with_reducible apply wp_set_own | with_reducible apply bodyPost_set_own); (focus (first | (with_reducible apply Own.set; (focus (with_reducible apply hO)); (repeat (first | with_reducible exact Put.here _ _ _ | with_reducible apply Put.there)); done) | (with_reducible apply Own.setRow; (focus (with_reducible apply hO)); (focus (repeat (first | with_reducible exact Put.here _ _ _ | with_reducible apply Put.there))); first | assumption | (simp; omega) | (simp; assumption)) | ((repeat' (first | with_reducible apply hO | with_reducible apply Own.set)); all_goals (repeat (first | with_reducible exact Put.here _ _ _ | with_reducible apply Put.there)); done))))); clear hO; intro w9 hO; (try dsimp only [List.set] at hO); ((try clear hf); have hf := hO.facts; (try simp only [FX, Nat.zero_add, Nat.reduceAdd, and_true, true_and, List.map_cons, List.map_nil, List.cons_append, List.nil_append] at hf))))
        go_ret2
        exact ⟨by rw [he]; rfl, hO.toExt⟩
      · have he := hU.isAt_end (k := k) (by omega)
        go_wp2_with (first | ((first | with_reducible refine wpList_alloc_own hO ?_ | with_reducible refine wpList_drew_own hO ?_ | with_reducible refine wp_alloc_own hO ?_ | with_reducible refine wp_drew_own hO ?_ | with_reducible refine bodyPost_alloc_own hO ?_ | with_reducible refine bodyPost_drew_own hO ?_ | ((first | with_reducible apply wpList_set_own | with_reducible apply wp_set_own | with_reducible apply bodyPost_set_own); (focus (first | (with_reducible apply Own.set; (focus (with_reducible apply hO)); (repeat (first | with_reducible exact Put.here _ _ _ | with_reducible apply Put.there)); done) | (with_reducible apply Own.setRow; (focus (with_reducible apply hO)); (focus (repeat (first | with_reducible exact Put.here _ _ _ | with_reducible apply Put.there))); first | assumption | (simp; omega) | (simp; assumption)) | ((repeat' (first | with_reducible apply hO | with_reducible apply Own.set)); all_goals (repeat (first | with_reducible exact Put.here _ _ _ | with_reducible apply Put.there)); done))))); clear hO; intro w9 hO; (try dsimp only [List.set] at hO); ((try clear hf); have hf := hO.facts; (try simp only [FX, Nat.zero_add, Nat.reduceAdd, and_true, true_and, List.map_cons, List.map_nil, List.cons_append, List.nil_append] at hf))))
        go_ret2
        exact ⟨by rw [he]; rfl, hO.toExt⟩

end Go.Proofs.YtpdnlgopbnkdhaaDoor
namespace Go.Proofs.YtpdnlgopbnkdhaaDoor
open Go.RowKit
/-- A deed as it lies in memory. -/
abbrev DV := Option Addr × Nat × List Ch
def dv (d : DV) : Value := .slice d.1 d.2.2.length d.2.1
def DsAt (w : World) (D : List DV) : Prop := ∀ d ∈ D, ValsAt w d.1 (chs d.2.2)
def dss (D : List DV) : List (List Ch) := D.map fun d => d.2.2
/-- Deeds as they lie in memory. -/
def DLAt (w : World) (a : Option Addr) (D : List DV) : Prop := ValsAt w a (D.map dv) ∧ DsAt w D
theorem DLAt.up {w w' : World} {a : Option Addr} {D : List DV} (h : DLAt w a D) (hb : ∀ b, b < w.heap.size → w'.heap[b]? = w.heap[b]?) : DLAt w' a D := ⟨vals_up h.1 hb, fun d hd => vals_up (h.2 d hd) hb⟩
theorem DLAt.ext {w w' : World} {a : Option Addr} {D : List DV} (h : DLAt w a D) (hx : Ext w w') : DLAt w' a D := ⟨h.1.ext hx, fun d hd => ValsAt.ext (h.2 d hd) hx⟩
end Go.Proofs.YtpdnlgopbnkdhaaDoor
