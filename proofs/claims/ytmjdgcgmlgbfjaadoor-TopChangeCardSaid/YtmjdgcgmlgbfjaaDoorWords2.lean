/- Words of a text, at most so many: what the library's split says, and the reference's words. -/
import Derived.Test.YtmjdgcgmlgbfjaaDoorWords
import Derived.Test.YtmjdgcgmlgbfjaaDoorRow5
set_option linter.unusedVariables false
set_option linter.unusedSimpArgs false
namespace Go.Proofs.YtmjdgcgmlgbfjaaDoor
open Go.RowKit
theorem Tryd.infoStr : (Tryd.prog.info? 9).map (fun i => (i.zero, i.size, i.bytes)) = some (some (.string ⟨#[]⟩), 1, 16) := by kernel_rfl
theorem first_sp (s : ByteArray) : (32 : UInt8) ∉ s.data.toList ∨ ∃ x r : ByteArray, s = x ++ sp ++ r ∧ (32 : UInt8) ∉ x.data.toList ∧ r.size < s.size := by
  by_cases h : (32 : UInt8) ∈ s.data.toList
  · right
    obtain ⟨a, b, e, h1⟩ := List.eq_append_cons_of_mem h
    refine ⟨⟨a.toArray⟩, ⟨b.toArray⟩, ba_ext (by rw [app_data, app_data, e, List.append_assoc]; rfl), by simpa using h1, ?_⟩
    have : s.data.toList.length = s.size := by simp
    show b.toArray.size < s.size
    rw [← this, e]; simp; omega
  · exact .inl h
/-- All words of it. -/
def wordsB (s : ByteArray) : List ByteArray := Lib.splitB sp 0 (Lib.countB s sp) s
theorem split_miss (k : Nat) (s : ByteArray) (h : (32 : UInt8) ∉ s.data.toList) : Lib.splitB sp 0 k s = [s] := Lib.splitB_miss _ _ _ _ (indexB_miss s h)
theorem split_upto : ∀ (m : Nat) (s : ByteArray) (k : Nat), s.size ≤ m → (Lib.countB s sp ≤ k → Lib.splitB sp 0 k s = wordsB s) ∧ (k ≤ Lib.countB s sp → (Lib.splitB sp 0 k s).length = k + 1) := by
  intro m
  induction m with
  | zero =>
    intro s k hm
    rcases first_sp s with h | ⟨x, r, rfl, hx, hr⟩
    · refine ⟨fun _ => by unfold wordsB; rw [split_miss _ _ h, split_miss _ _ h], fun hk => ?_⟩
      rw [Lib.countB_miss _ _ (indexB_miss s h)] at hk
      rw [split_miss _ _ h, List.length_singleton]; omega
    · omega
  | succ m ih =>
    intro s k hm
    rcases first_sp s with h | ⟨x, r, rfl, hx, hr⟩
    · refine ⟨fun _ => by unfold wordsB; rw [split_miss _ _ h, split_miss _ _ h], fun hk => ?_⟩
      rw [Lib.countB_miss _ _ (indexB_miss s h)] at hk
      rw [split_miss _ _ h, List.length_singleton]; omega
    · have ih1 := fun k => ih r k (by omega)
      unfold wordsB
      rw [count_hit' _ _ hx]
      cases k with
      | zero => exact ⟨fun h => by omega, fun _ => by rw [Lib.splitB_zero]; rfl⟩
      | succ k =>
        rw [split_hit _ _ _ hx, Nat.add_comm 1, split_hit _ _ _ hx]
        exact ⟨fun h => by rw [(ih1 k).1 (by omega)]; rfl, fun h => by rw [List.length_cons, (ih1 k).2 (by omega)]⟩
theorem split_all (s : ByteArray) (k : Nat) (h : Lib.countB s sp ≤ k) : Lib.splitB sp 0 k s = wordsB s := (split_upto _ s k (Nat.le_refl _)).1 h
theorem split_many (s : ByteArray) (k : Nat) (h : k ≤ Lib.countB s sp) : (Lib.splitB sp 0 k s).length = k + 1 := (split_upto _ s k (Nat.le_refl _)).2 h
/-- Three words, where all are cut. -/
theorem wordsB_three (s x y z : ByteArray) (h : wordsB s = [x, y, z]) : s = x ++ sp ++ (y ++ sp ++ z) ∧ (32 : UInt8) ∉ x.data.toList ∧ (32 : UInt8) ∉ y.data.toList ∧ (32 : UInt8) ∉ z.data.toList := by
  have h1 := split_words s
  rw [show Lib.splitB sp 0 (Lib.countB s sp) s = _ from h] at h1
  obtain ⟨h2, h3⟩ := (words3 _ _ _ _).1 h1.symm
  exact ⟨ba_ext (by rw [app_data, app_data, app_data, app_data, h2, List.append_assoc, List.append_assoc]; rfl), h3⟩
/-- Three words, of which the last has all that is left. -/
theorem split2_three (s x y z : ByteArray) (h : Lib.splitB sp 0 2 s = [x, y, z]) : s = x ++ sp ++ (y ++ sp ++ z) ∧ (32 : UInt8) ∉ x.data.toList ∧ (32 : UInt8) ∉ y.data.toList := by
  rcases first_sp s with h1 | ⟨a, r, rfl, ha, hr⟩
  · rw [split_miss _ _ h1] at h; simp at h
  · rw [split_hit _ _ _ ha] at h
    rcases first_sp r with h1 | ⟨b, r', rfl, hb, hr'⟩
    · rw [split_miss _ _ h1] at h; simp at h
    · rw [split_hit _ _ _ hb, Lib.splitB_zero] at h
      injection h with h1 h
      injection h with h2 h
      injection h with h3 h
      subst h1; subst h2; subst h3
      exact ⟨rfl, ha, hb⟩
theorem ext_cut (s : ByteArray) (f i : Nat) (hf : f ≤ i) (hi : i < s.size) (h : s[i] = 32) : s.extract f s.size = s.extract f i ++ sp ++ s.extract (i + 1) s.size := ba_ext (by
  have hs : s.size = s.data.toList.length := by simp
  rw [app_data, app_data, ByteArray.data_extract, ByteArray.data_extract, ByteArray.data_extract, Array.toList_extract, Array.toList_extract, Array.toList_extract, List.extract_eq_take_drop, List.extract_eq_take_drop, List.extract_eq_take_drop]
  have e : s.data.toList.drop f = (s.data.toList.drop f).take (i - f) ++ 32 :: s.data.toList.drop (i + 1) := by
    conv => lhs; rw [← List.take_append_drop (i - f) (s.data.toList.drop f)]
    rw [List.drop_drop, show f + (i - f) = i from by omega, List.drop_eq_getElem_cons (by omega : i < s.data.toList.length), show s.data.toList[i]'(by omega) = 32 from h]
  rw [List.take_of_length_le (l := s.data.toList.drop f) (i := s.size - f) (by rw [List.length_drop]; omega), List.take_of_length_le (l := s.data.toList.drop (i + 1)) (i := s.size - (i + 1)) (by rw [List.length_drop]; omega), List.append_assoc]
  exact e)
theorem ext_nosp (s : ByteArray) (f i : Nat) (hi : i ≤ s.size) (h : ∀ j (hj : j < s.size), f ≤ j → j < i → s[j] ≠ 32) : (32 : UInt8) ∉ (s.extract f i).data.toList := by
  intro hm
  rw [ByteArray.data_extract, Array.toList_extract, List.extract_eq_take_drop] at hm
  obtain ⟨j, hj, he⟩ := List.getElem_of_mem hm
  have hs : s.size = s.data.toList.length := by simp
  rw [List.length_take, List.length_drop] at hj
  rw [List.getElem_take, List.getElem_drop] at he
  exact h (f + j) (by omega) (by omega) (by omega) he
/-- How far the words are cut. -/
structure Cuts (s : ByteArray) (most : Nat) (acc : List ByteArray) (f i : Nat) : Prop where
  fi : f ≤ i
  is : i ≤ s.size
  len : acc.length + 1 ≤ most
  said : Lib.splitB sp 0 (most - 1) s = acc ++ Lib.splitB sp 0 (most - 1 - acc.length) (s.extract f s.size)
  no : ∀ j (hj : j < s.size), f ≤ j → j < i → s[j] ≠ 32
theorem Cuts.start (s : ByteArray) (most : Nat) (h : 1 ≤ most) : Cuts s most [] 0 0 :=
  ⟨Nat.le_refl _, Nat.zero_le _, by simpa using h, by simp, fun j _ _ h => by omega⟩
theorem Cuts.cut {s : ByteArray} {most f i : Nat} {acc : List ByteArray} (h : Cuts s most acc f i) (hi : i < s.size) (hc : s[i] = 32) (hl : acc.length + 1 < most) : Cuts s most (acc ++ [s.extract f i]) (i + 1) (i + 1) :=
  ⟨Nat.le_refl _, by omega, by rw [List.length_append, List.length_singleton]; omega, by
    rw [h.said, ext_cut s f i h.fi hi hc, show most - 1 - acc.length = (most - 1 - (acc ++ [s.extract f i]).length) + 1 from by rw [List.length_append, List.length_singleton]; omega,
      split_hit _ _ _ (ext_nosp s f i (by omega) h.no), List.append_assoc]; rfl, fun j _ h1 h2 => by omega⟩
theorem Cuts.on {s : ByteArray} {most f i : Nat} {acc : List ByteArray} (h : Cuts s most acc f i) (hi : i < s.size) (hc : s[i] ≠ 32) : Cuts s most acc f (i + 1) :=
  ⟨by have := h.fi; omega, by omega, h.len, h.said, fun j hj h1 h2 => by
    rcases Nat.lt_or_ge j i with h3 | h3
    · exact h.no j hj h1 h3
    · obtain rfl : j = i := by omega
      exact hc⟩
theorem Cuts.last {s : ByteArray} {most f i : Nat} {acc : List ByteArray} (h : Cuts s most acc f i) (hl : i = s.size ∨ acc.length + 1 = most) : acc ++ [s.extract f s.size] = Lib.splitB sp 0 (most - 1) s := by
  rw [h.said]
  rcases hl with rfl | hl
  · rw [split_miss _ _ (ext_nosp s f s.size (by omega) h.no)]
  · rw [show most - 1 - acc.length = 0 from by omega, Lib.splitB_zero]
set_option maxHeartbeats 2000000 in
set_option maxRecDepth 100000 in
theorem words_does (s : ByteArray) (most : Nat) (hm : 1 ≤ most) (hm2 : most ≤ 200) (hs : s.size ≤ 1000) : Does Tryd.prog 53 #[.string s, .int .i64 most] [] (fun p : Option Addr × Nat => (.slice p.1 (Lib.splitB sp 0 (most - 1) s).length p.2, [Row2 9 1 p.1 (Lib.splitB sp 0 (most - 1) s).length p.2 ((Lib.splitB sp 0 (most - 1) s).map .string)])) := by
  obtain ⟨iS, hiS, hzS, hsS, hbS⟩ := info_parts Tryd.infoStr
  intro S W w L0 hO; simp only [List.cons_append, List.nil_append] at hO
  go_enter Tryd.func53, Tryd.ntmps53
  go_wp2_with (first | ((first | with_reducible refine wpList_alloc_own hO ?_ | with_reducible refine wpList_drew_own hO ?_ | with_reducible refine wp_alloc_own hO ?_ | with_reducible refine wp_drew_own hO ?_ | with_reducible refine bodyPost_alloc_own hO ?_ | with_reducible refine bodyPost_drew_own hO ?_ | ((first | with_reducible apply wpList_set_own | with_reducible apply wp_set_own | with_reducible apply bodyPost_set_own); (focus (first | (with_reducible apply Own.set; (focus (with_reducible apply hO)); (repeat (first | with_reducible exact Put.here _ _ _ | with_reducible apply Put.there)); done) | (with_reducible apply Own.setRow; (focus (with_reducible apply hO)); (focus (repeat (first | with_reducible exact Put.here _ _ _ | with_reducible apply Put.there))); first | assumption | (simp; omega) | (simp; assumption)) | ((repeat' (first | with_reducible apply hO | with_reducible apply Own.set)); all_goals (repeat (first | with_reducible exact Put.here _ _ _ | with_reducible apply Put.there)); done))))); clear hO; intro w9 hO; (try dsimp only [List.set] at hO); ((try clear hf); have hf := hO.facts; (try simp only [FX, Nat.zero_add, Nat.reduceAdd, and_true, true_and, List.map_cons, List.map_nil, List.cons_append, List.nil_append] at hf))))
  rename World => w0
  have hO9 := hO.nil 9 1
  clear hO
  go_loopw [5, 6, 7] (fun l5 l6 l7 wr => ∃ (acc : List ByteArray) (f i : Nat) (a : Option Addr) (c n : Nat), Hid (Cuts s most acc f i) ∧ f ≤ i ∧ i ≤ s.size ∧ n + 1 ≤ most ∧ Hid (n = acc.length) ∧ l5 = .slice a n c ∧ l6 = .int .i64 f ∧ l7 = .int .i64 i ∧ Own S W wr (Row2 9 1 a n c (acc.map .string) :: L0)) (fun _ _ i _ => s.size - (intOf i).toNat)
  case atStart => exact ⟨[], 0, 0, none, 0, 0, Lib.hid (Cuts.start s most hm), by omega, by omega, by omega, Lib.hid rfl, rfl, rfl, rfl, hO9⟩
  case round =>
    clear hO9
    obtain ⟨acc, f, i, a, c, n, HC, hfi, his, hn, hna, rfl, rfl, rfl, hO⟩ := hrel
    rename World => w1
    ((try clear hf); have hf := hO.facts; (try simp only [FX, Nat.zero_add, Nat.reduceAdd, and_true, true_and, List.map_cons, List.map_nil, List.cons_append, List.nil_append] at hf))
    by_cases hlt : i < s.size ∧ n + 1 < most
    · obtain ⟨h1, h2⟩ := hlt
      by_cases hc : s[i] = 32
      · have HC2 := Lib.hid (HC.out.cut h1 hc (by rw [← hna.out]; exact h2))
        have hcb : (s[i].toNat == 32) = true := by rw [hc]; rfl
        go_wp2_with (first | (at_builtin; (refine wpList_append_var hO (by repeat (first | with_reducible exact Pick.here _ _ | with_reducible apply Pick.there)) (by repeat (first | with_reducible exact Pick.here _ _ | with_reducible apply Pick.there)) rfl (.tmp 25) (.tmp 30) 86 rfl iS _ 16 Tryd.underlying86 hiS hzS hsS hbS rfl (by omega) rfl _ _ rfl (by rfl) (by repeat (first | exact ones_nil | refine ones_cons rfl ?_)) (by unfold maxLen; omega) (by omega) ?_; clear hO; intro ka9 kc9 w9 hO; ((try clear hf); have hf := hO.facts; (try simp only [FX, Nat.zero_add, Nat.reduceAdd, and_true, true_and, List.map_cons, List.map_nil, List.cons_append, List.nil_append] at hf)))) | ((first | with_reducible refine wpList_alloc_own hO ?_ | with_reducible refine wpList_drew_own hO ?_ | with_reducible refine wp_alloc_own hO ?_ | with_reducible refine wp_drew_own hO ?_ | with_reducible refine bodyPost_alloc_own hO ?_ | with_reducible refine bodyPost_drew_own hO ?_ | ((first | with_reducible apply wpList_set_own | with_reducible apply wp_set_own | with_reducible apply bodyPost_set_own); (focus (first | (with_reducible apply Own.set; (focus (with_reducible apply hO)); (repeat (first | with_reducible exact Put.here _ _ _ | with_reducible apply Put.there)); done) | (with_reducible apply Own.setRow; (focus (with_reducible apply hO)); (focus (repeat (first | with_reducible exact Put.here _ _ _ | with_reducible apply Put.there))); first | assumption | (simp; omega) | (simp; assumption)) | ((repeat' (first | with_reducible apply hO | with_reducible apply Own.set)); all_goals (repeat (first | with_reducible exact Put.here _ _ _ | with_reducible apply Put.there)); done))))); clear hO; intro w9 hO; (try dsimp only [List.set] at hO); ((try clear hf); have hf := hO.facts; (try simp only [FX, Nat.zero_add, Nat.reduceAdd, and_true, true_and, List.map_cons, List.map_nil, List.cons_append, List.nil_append] at hf))))
        refine ⟨⟨acc ++ [s.extract f i], i + 1, i + 1, ka9, kc9, n + 1, HC2, by omega, by omega, by omega, Lib.hid (by rw [hna.out, List.length_append, List.length_singleton]), rfl, by go_num, by go_num, ?_⟩, by simp [intOf]; omega⟩
        rw [List.map_append]
        exact hO
      · have HC2 := Lib.hid (HC.out.on h1 hc)
        have hcb : ((s[i].toNat : Int) == 32) = false := by
          have : s[i].toNat ≠ 32 := fun e => hc (UInt8.toNat_inj.1 e)
          simp; omega
        go_wp2_with (first | ((first | with_reducible refine wpList_alloc_own hO ?_ | with_reducible refine wpList_drew_own hO ?_ | with_reducible refine wp_alloc_own hO ?_ | with_reducible refine wp_drew_own hO ?_ | with_reducible refine bodyPost_alloc_own hO ?_ | with_reducible refine bodyPost_drew_own hO ?_ | ((first | with_reducible apply wpList_set_own | with_reducible apply wp_set_own | with_reducible apply bodyPost_set_own); (focus (first | (with_reducible apply Own.set; (focus (with_reducible apply hO)); (repeat (first | with_reducible exact Put.here _ _ _ | with_reducible apply Put.there)); done) | (with_reducible apply Own.setRow; (focus (with_reducible apply hO)); (focus (repeat (first | with_reducible exact Put.here _ _ _ | with_reducible apply Put.there))); first | assumption | (simp; omega) | (simp; assumption)) | ((repeat' (first | with_reducible apply hO | with_reducible apply Own.set)); all_goals (repeat (first | with_reducible exact Put.here _ _ _ | with_reducible apply Put.there)); done))))); clear hO; intro w9 hO; (try dsimp only [List.set] at hO); ((try clear hf); have hf := hO.facts; (try simp only [FX, Nat.zero_add, Nat.reduceAdd, and_true, true_and, List.map_cons, List.map_nil, List.cons_append, List.nil_append] at hf))))
        exact ⟨⟨acc, f, i + 1, a, c, n, HC2, by omega, by omega, by omega, hna, rfl, rfl, by go_num, hO⟩, by simp [intOf]; omega⟩
    · have HC2 := Lib.hid (HC.out.last (by rw [← hna.out]; omega))
      go_wp2_with (first | (at_builtin; (refine wpList_append_var hO (by repeat (first | with_reducible exact Pick.here _ _ | with_reducible apply Pick.there)) (by repeat (first | with_reducible exact Pick.here _ _ | with_reducible apply Pick.there)) rfl (.tmp 34) (.tmp 38) 86 rfl iS _ 16 Tryd.underlying86 hiS hzS hsS hbS rfl (by omega) rfl _ _ rfl (by rfl) (by repeat (first | exact ones_nil | refine ones_cons rfl ?_)) (by unfold maxLen; omega) (by omega) ?_; clear hO; intro ka9 kc9 w9 hO; ((try clear hf); have hf := hO.facts; (try simp only [FX, Nat.zero_add, Nat.reduceAdd, and_true, true_and, List.map_cons, List.map_nil, List.cons_append, List.nil_append] at hf)))) | ((first | with_reducible refine wpList_alloc_own hO ?_ | with_reducible refine wpList_drew_own hO ?_ | with_reducible refine wp_alloc_own hO ?_ | with_reducible refine wp_drew_own hO ?_ | with_reducible refine bodyPost_alloc_own hO ?_ | with_reducible refine bodyPost_drew_own hO ?_ | ((first | with_reducible apply wpList_set_own | with_reducible apply wp_set_own | with_reducible apply bodyPost_set_own); (focus (first | (with_reducible apply Own.set; (focus (with_reducible apply hO)); (repeat (first | with_reducible exact Put.here _ _ _ | with_reducible apply Put.there)); done) | (with_reducible apply Own.setRow; (focus (with_reducible apply hO)); (focus (repeat (first | with_reducible exact Put.here _ _ _ | with_reducible apply Put.there))); first | assumption | (simp; omega) | (simp; assumption)) | ((repeat' (first | with_reducible apply hO | with_reducible apply Own.set)); all_goals (repeat (first | with_reducible exact Put.here _ _ _ | with_reducible apply Put.there)); done))))); clear hO; intro w9 hO; (try dsimp only [List.set] at hO); ((try clear hf); have hf := hO.facts; (try simp only [FX, Nat.zero_add, Nat.reduceAdd, and_true, true_and, List.map_cons, List.map_nil, List.cons_append, List.nil_append] at hf))))
      all_goals
        go_ret
        have e := HC2.out
        have el : n + 1 = (Lib.splitB sp 0 (most - 1) s).length := by rw [← e, hna.out, List.length_append, List.length_singleton]
        refine ⟨(ka9, kc9), by rw [← el]; rfl, ?_⟩
        dsimp only
        rw [← el, ← e, List.map_append]
        exact hO
end Go.Proofs.YtmjdgcgmlgbfjaaDoor
