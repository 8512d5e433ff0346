/- The reference's keys: numbers, names' keys. -/
import Derived.Test.YtmjdgcgmlgbfjaaDoorRow4
import Derived.Test.YtmjdgcgmlgbfjaaDoorKeyLaw
import Derived.Test.YtmjdgcgmlgbfjaaDoorTree
set_option linter.unusedVariables false
set_option linter.unusedSimpArgs false
namespace Go.Proofs.YtmjdgcgmlgbfjaaDoor
open Go.RowKit
theorem Tryd.intU8 : Tryd.prog.underlying 5 = some (.int .u8) := by kernel_rfl
theorem push_one (m : Int) : ([m] : List Int).foldl (fun r n => r.push (UInt8.ofNat n.toNat)) ByteArray.empty = ⟨#[UInt8.ofNat m.toNat]⟩ := rfl
set_option maxHeartbeats 2000000 in
set_option maxRecDepth 100000 in
theorem decimal_any (n : Nat) : ∀ w, n ≤ 2000000000 → Calls Tryd.prog 50 #[.int .i64 n] w fun e w' => e = .returned (.string (itoaB n)) ∧ Ext w w' := by
  induction n using Nat.strongRecOn with
  | ind n ih =>
    intro w hn
    have hO := Own.start w (fun _ => False)
    by_cases h10 : n < 10
    · have e : itoaB n = ⟨#[UInt8.ofNat (48 + n)]⟩ := ba_ext (by rw [itoaB_list, dec_one n h10]; rfl)
      rw [e]
      obtain ⟨y, hy⟩ : ∃ y : ByteArray, y = ⟨#[UInt8.ofNat (48 + n)]⟩ := ⟨_, rfl⟩
      have HY := Lib.hid hy
      rw [← hy]
      clear hy e
      go_enter Tryd.func50, Tryd.ntmps50
      go_wp2_with (first | (refine wpList_bytes_own4 hO (r := Var _ [.int .u8 (48 + (n : Int))] 5) (by repeat (first | with_reducible exact Pick.here _ _ | with_reducible apply Pick.there)) rfl (.tmp 14) 93 9 5 rfl Tryd.underlying93 Tryd.intU8 Tryd.underlying9 _ 0 1 1 [(48 + (n : Int))] rfl rfl (by intro j u hj; cases j with | zero => (injection hj with hj; subst hj; exact hf.1) | succ j => simp at hj) ?_; rw [push_one, show (48 + (n : Int)).toNat = 48 + n from by omega, ← HY.out]) | ((first | with_reducible refine wpList_alloc_own hO ?_ | with_reducible refine wpList_drew_own hO ?_ | with_reducible refine wp_alloc_own hO ?_ | with_reducible refine wp_drew_own hO ?_ | with_reducible refine bodyPost_alloc_own hO ?_ | with_reducible refine bodyPost_drew_own hO ?_ | ((first | with_reducible apply wpList_set_own | with_reducible apply wp_set_own | with_reducible apply bodyPost_set_own); (focus (first | (with_reducible apply Own.set; (focus (with_reducible apply hO)); (repeat (first | with_reducible exact Put.here _ _ _ | with_reducible apply Put.there)); done) | (with_reducible apply Own.setRow; (focus (with_reducible apply hO)); (focus (repeat (first | with_reducible exact Put.here _ _ _ | with_reducible apply Put.there))); first | assumption | (simp; omega) | (simp; assumption)) | ((repeat' (first | with_reducible apply hO | with_reducible apply Own.set)); all_goals (repeat (first | with_reducible exact Put.here _ _ _ | with_reducible apply Put.there)); done))))); clear hO; intro w9 hO; (try dsimp only [List.set] at hO); ((try clear hf); have hf := hO.facts; (try simp only [FX, Nat.zero_add, Nat.reduceAdd, and_true, true_and, List.map_cons, List.map_nil, List.cons_append, List.nil_append] at hf)))) -- M1
      go_ret
      exact ⟨rfl, hO.toExt⟩
    · have e : itoaB n = itoaB ((n / 10 : Nat) : Int) ++ ⟨#[UInt8.ofNat (48 + n % 10)]⟩ := ba_ext (by rw [app_data, itoaB_list, itoaB_list, dec_step n h10]; rfl)
      have hs := itoaB_size 9 (n / 10) (by omega)
      have HD := fun w => ih (n / 10) (by omega) w (by omega)
      rw [show ((n / 10 : Nat) : Int) = (n : Int) / 10 from by omega] at HD hs e
      rw [e]
      generalize itoaB ((n : Int) / 10) = x at *
      obtain ⟨y, hy⟩ : ∃ y : ByteArray, y = ⟨#[UInt8.ofNat (48 + n % 10)]⟩ := ⟨_, rfl⟩
      have HY := Lib.hid hy
      have hys : y.size = 1 := by rw [hy]; rfl
      rw [← hy]
      clear hy e ih
      go_enter Tryd.func50, Tryd.ntmps50
      go_wp2_with (first | ((first | with_reducible refine wpList_alloc_own hO ?_ | with_reducible refine wpList_drew_own hO ?_ | with_reducible refine wp_alloc_own hO ?_ | with_reducible refine wp_drew_own hO ?_ | with_reducible refine bodyPost_alloc_own hO ?_ | with_reducible refine bodyPost_drew_own hO ?_ | ((first | with_reducible apply wpList_set_own | with_reducible apply wp_set_own | with_reducible apply bodyPost_set_own); (focus (first | (with_reducible apply Own.set; (focus (with_reducible apply hO)); (repeat (first | with_reducible exact Put.here _ _ _ | with_reducible apply Put.there)); done) | (with_reducible apply Own.setRow; (focus (with_reducible apply hO)); (focus (repeat (first | with_reducible exact Put.here _ _ _ | with_reducible apply Put.there))); first | assumption | (simp; omega) | (simp; assumption)) | ((repeat' (first | with_reducible apply hO | with_reducible apply Own.set)); all_goals (repeat (first | with_reducible exact Put.here _ _ _ | with_reducible apply Put.there)); done))))); clear hO; intro w9 hO; (try dsimp only [List.set] at hO); ((try clear hf); have hf := hO.facts; (try simp only [FX, Nat.zero_add, Nat.reduceAdd, and_true, true_and, List.map_cons, List.map_nil, List.cons_append, List.nil_append] at hf))))
      refine wp_region_plan [0, 1, 3, 4, 5, 6, 9, 10] (.pure 0 <| .pure 1 <| .pure 3 <| .pure 4 <| .pure 5 <| .pure 6 <| .fork 2 (.one 7 <| .one 8 <| .pure 9 <| .pure 10 .done) 7 (.fork 2 (.one 8 <| .pure 9 <| .pure 10 .done) 8 (.one 2 <| .pure 9 <| .pure 10 .done))) (by kernel_rfl) (by kernel_rfl) (fun _ _ d _ _ h => by cases d <;> exact h) ?_
      intro w9 hx9; replace hO := hO.ext hx9; clear hx9
      ((try clear hf); have hf := hO.facts; (try simp only [FX, Nat.zero_add, Nat.reduceAdd, and_true, true_and, List.map_cons, List.map_nil, List.cons_append, List.nil_append] at hf))
      (repeat (apply inPlan_p _ rfl rfl rfl; focus (intro w8 K8 hK8; (repeat (first | go_skip | go_guarded | go_step)); exact hK8)))
      refine inPlan_fork rfl rfl ?_ ?_
      · (intro K8 hK8; (repeat (first | go_skip | go_guarded | go_step)); (go_at_call 50; (with_reducible apply Calls.mono (HD _); rintro e7 w7 ⟨rfl, hx7⟩; replace hO := hO.ext hx7; clear hx7; dsimp only; ((try clear hf); have hf := hO.facts; (try simp only [FX, Nat.zero_add, Nat.reduceAdd, and_true, true_and, List.map_cons, List.map_nil, List.cons_append, List.nil_append] at hf)))); (repeat go_step))
        refine inPlan_one rfl ?_
        (intro K8 hK8; (repeat (first | go_skip | go_guarded | go_step)); with_reducible refine inPlan_alloc_own hO ?_; clear hO; intro w9 hO; ((try clear hf); have hf := hO.facts; (try simp only [FX, Nat.zero_add, Nat.reduceAdd, and_true, true_and, List.map_cons, List.map_nil, List.cons_append, List.nil_append] at hf)))
        refine inPlan_one rfl ?_
        (intro K8 hK8; refine wpList_bytes_own4 hO (r := Var _ [.int .u8 (48 + (n : Int) % 10)] 5) (by repeat (first | with_reducible exact Pick.here _ _ | with_reducible apply Pick.there)) rfl (.tmp 23) 93 9 5 rfl Tryd.underlying93 Tryd.intU8 Tryd.underlying9 _ 0 1 1 [(48 + (n : Int) % 10)] rfl rfl (by intro j u hj; cases j with | zero => (injection hj with hj; subst hj; exact hf.1) | succ j => simp at hj) ?_; rw [push_one, show (48 + (n : Int) % 10).toNat = 48 + n % 10 from by omega, ← HY.out]; (repeat go_step))
        (repeat (apply inPlan_p _ rfl rfl rfl; focus (intro w8 K8 hK8; (repeat (first | go_skip | go_guarded | go_step)); exact hK8)))
        refine inPlan_done ?_
        go_wp2_with (first | ((first | with_reducible refine wpList_alloc_own hO ?_ | with_reducible refine wpList_drew_own hO ?_ | with_reducible refine wp_alloc_own hO ?_ | with_reducible refine wp_drew_own hO ?_ | with_reducible refine bodyPost_alloc_own hO ?_ | with_reducible refine bodyPost_drew_own hO ?_ | ((first | with_reducible apply wpList_set_own | with_reducible apply wp_set_own | with_reducible apply bodyPost_set_own); (focus (first | (with_reducible apply Own.set; (focus (with_reducible apply hO)); (repeat (first | with_reducible exact Put.here _ _ _ | with_reducible apply Put.there)); done) | (with_reducible apply Own.setRow; (focus (with_reducible apply hO)); (focus (repeat (first | with_reducible exact Put.here _ _ _ | with_reducible apply Put.there))); first | assumption | (simp; omega) | (simp; assumption)) | ((repeat' (first | with_reducible apply hO | with_reducible apply Own.set)); all_goals (repeat (first | with_reducible exact Put.here _ _ _ | with_reducible apply Put.there)); done))))); clear hO; intro w9 hO; (try dsimp only [List.set] at hO); ((try clear hf); have hf := hO.facts; (try simp only [FX, Nat.zero_add, Nat.reduceAdd, and_true, true_and, List.map_cons, List.map_nil, List.cons_append, List.nil_append] at hf))))
        go_ret
        exact ⟨rfl, hO.toExt⟩
      · (intro K8 hK8; (repeat (first | go_skip | go_guarded | go_step)); with_reducible refine inPlan_alloc_own hO ?_; clear hO; intro w9 hO; ((try clear hf); have hf := hO.facts; (try simp only [FX, Nat.zero_add, Nat.reduceAdd, and_true, true_and, List.map_cons, List.map_nil, List.cons_append, List.nil_append] at hf)))
        refine inPlan_fork rfl rfl ?_ ?_
        · (intro K8 hK8; (repeat (first | go_skip | go_guarded | go_step)); (go_at_call 50; (with_reducible apply Calls.mono (HD _); rintro e7 w7 ⟨rfl, hx7⟩; replace hO := hO.ext hx7; clear hx7; dsimp only; ((try clear hf); have hf := hO.facts; (try simp only [FX, Nat.zero_add, Nat.reduceAdd, and_true, true_and, List.map_cons, List.map_nil, List.cons_append, List.nil_append] at hf)))); (repeat go_step))
          refine inPlan_one rfl ?_
          (intro K8 hK8; refine wpList_bytes_own4 hO (r := Var _ [.int .u8 (48 + (n : Int) % 10)] 5) (by repeat (first | with_reducible exact Pick.here _ _ | with_reducible apply Pick.there)) rfl (.tmp 23) 93 9 5 rfl Tryd.underlying93 Tryd.intU8 Tryd.underlying9 _ 0 1 1 [(48 + (n : Int) % 10)] rfl rfl (by intro j u hj; cases j with | zero => (injection hj with hj; subst hj; exact hf.1) | succ j => simp at hj) ?_; rw [push_one, show (48 + (n : Int) % 10).toNat = 48 + n % 10 from by omega, ← HY.out]; (repeat go_step))
          (repeat (apply inPlan_p _ rfl rfl rfl; focus (intro w8 K8 hK8; (repeat (first | go_skip | go_guarded | go_step)); exact hK8)))
          refine inPlan_done ?_
          go_wp2_with (first | ((first | with_reducible refine wpList_alloc_own hO ?_ | with_reducible refine wpList_drew_own hO ?_ | with_reducible refine wp_alloc_own hO ?_ | with_reducible refine wp_drew_own hO ?_ | with_reducible refine bodyPost_alloc_own hO ?_ | with_reducible refine bodyPost_drew_own hO ?_ | ((first | with_reducible apply wpList_set_own | with_reducible apply wp_set_own | with_reducible apply bodyPost_set_own); (focus (first | (with_reducible apply Own.set; (focus (with_reducible apply hO)); (repeat (first | with_reducible exact Put.here _ _ _ | with_reducible apply Put.there)); done) | (with_reducible apply Own.setRow; (focus (with_reducible apply hO)); (focus (repeat (first | with_reducible exact Put.here _ _ _ | with_reducible apply Put.there))); first | assumption | (simp; omega) | (simp; assumption)) | ((repeat' (first | with_reducible apply hO | with_reducible apply Own.set)); all_goals (repeat (first | with_reducible exact Put.here _ _ _ | with_reducible apply Put.there)); done))))); clear hO; intro w9 hO; (try dsimp only [List.set] at hO); ((try clear hf); have hf := hO.facts; (try simp only [FX, Nat.zero_add, Nat.reduceAdd, and_true, true_and, List.map_cons, List.map_nil, List.cons_append, List.nil_append] at hf))))
          go_ret
          exact ⟨rfl, hO.toExt⟩
        · (intro K8 hK8; refine wpList_bytes_own4 hO (r := Var _ [.int .u8 (48 + (n : Int) % 10)] 5) (by repeat (first | with_reducible exact Pick.here _ _ | with_reducible apply Pick.there)) rfl (.tmp 23) 93 9 5 rfl Tryd.underlying93 Tryd.intU8 Tryd.underlying9 _ 0 1 1 [(48 + (n : Int) % 10)] rfl rfl (by intro j u hj; cases j with | zero => (injection hj with hj; subst hj; exact hf.1) | succ j => simp at hj) ?_; rw [push_one, show (48 + (n : Int) % 10).toNat = 48 + n % 10 from by omega, ← HY.out]; (repeat go_step))
          refine inPlan_one rfl ?_
          (intro K8 hK8; (repeat (first | go_skip | go_guarded | go_step)); (go_at_call 50; (with_reducible apply Calls.mono (HD _); rintro e7 w7 ⟨rfl, hx7⟩; replace hO := hO.ext hx7; clear hx7; dsimp only; ((try clear hf); have hf := hO.facts; (try simp only [FX, Nat.zero_add, Nat.reduceAdd, and_true, true_and, List.map_cons, List.map_nil, List.cons_append, List.nil_append] at hf)))); (repeat go_step))
          (repeat (apply inPlan_p _ rfl rfl rfl; focus (intro w8 K8 hK8; (repeat (first | go_skip | go_guarded | go_step)); exact hK8)))
          refine inPlan_done ?_
          go_wp2_with (first | ((first | with_reducible refine wpList_alloc_own hO ?_ | with_reducible refine wpList_drew_own hO ?_ | with_reducible refine wp_alloc_own hO ?_ | with_reducible refine wp_drew_own hO ?_ | with_reducible refine bodyPost_alloc_own hO ?_ | with_reducible refine bodyPost_drew_own hO ?_ | ((first | with_reducible apply wpList_set_own | with_reducible apply wp_set_own | with_reducible apply bodyPost_set_own); (focus (first | (with_reducible apply Own.set; (focus (with_reducible apply hO)); (repeat (first | with_reducible exact Put.here _ _ _ | with_reducible apply Put.there)); done) | (with_reducible apply Own.setRow; (focus (with_reducible apply hO)); (focus (repeat (first | with_reducible exact Put.here _ _ _ | with_reducible apply Put.there))); first | assumption | (simp; omega) | (simp; assumption)) | ((repeat' (first | with_reducible apply hO | with_reducible apply Own.set)); all_goals (repeat (first | with_reducible exact Put.here _ _ _ | with_reducible apply Put.there)); done))))); clear hO; intro w9 hO; (try dsimp only [List.set] at hO); ((try clear hf); have hf := hO.facts; (try simp only [FX, Nat.zero_add, Nat.reduceAdd, and_true, true_and, List.map_cons, List.map_nil, List.cons_append, List.nil_append] at hf))))
          go_ret
          exact ⟨rfl, hO.toExt⟩
theorem pad_six (m : Nat) (h : m < 1000000) : List.replicate (6 - (Lib.decDigits m).length) 48 ++ Lib.decDigits m = esix m := by
  have z : d8 0 = 48 := rfl
  unfold esix
  by_cases h1 : m < 10
  · rw [dec_one m h1, show m / 100000 % 10 = 0 from by omega, show m / 10000 % 10 = 0 from by omega, show m / 1000 % 10 = 0 from by omega, show m / 100 % 10 = 0 from by omega, show m / 10 % 10 = 0 from by omega, show m % 10 = m from by omega]; rfl
  rw [dec_step m h1]
  by_cases h2 : m / 10 < 10
  · rw [dec_one _ h2, show m / 100000 % 10 = 0 from by omega, show m / 10000 % 10 = 0 from by omega, show m / 1000 % 10 = 0 from by omega, show m / 100 % 10 = 0 from by omega, show m / 10 % 10 = m / 10 from by omega]; rfl
  rw [dec_step _ h2]
  by_cases h3 : m / 10 / 10 < 10
  · rw [dec_one _ h3, show m / 100000 % 10 = 0 from by omega, show m / 10000 % 10 = 0 from by omega, show m / 1000 % 10 = 0 from by omega, show m / 100 % 10 = m / 10 / 10 from by omega]; rfl
  rw [dec_step _ h3]
  by_cases h4 : m / 10 / 10 / 10 < 10
  · rw [dec_one _ h4, show m / 100000 % 10 = 0 from by omega, show m / 10000 % 10 = 0 from by omega, show m / 1000 % 10 = m / 10 / 10 / 10 from by omega, show m / 100 % 10 = m / 10 / 10 % 10 from by omega]; rfl
  rw [dec_step _ h4]
  by_cases h5 : m / 10 / 10 / 10 / 10 < 10
  · rw [dec_one _ h5, show m / 100000 % 10 = 0 from by omega, show m / 10000 % 10 = m / 10 / 10 / 10 / 10 from by omega, show m / 1000 % 10 = m / 10 / 10 / 10 % 10 from by omega, show m / 100 % 10 = m / 10 / 10 % 10 from by omega]; rfl
  rw [dec_step _ h5, dec_one (m / 10 / 10 / 10 / 10 / 10) (by omega), show m / 100000 % 10 = m / 10 / 10 / 10 / 10 / 10 from by omega, show m / 10000 % 10 = m / 10 / 10 / 10 / 10 % 10 from by omega, show m / 1000 % 10 = m / 10 / 10 / 10 % 10 from by omega, show m / 100 % 10 = m / 10 / 10 % 10 from by omega]; rfl
def padB (k m : Nat) : ByteArray := ⟨(List.replicate k 48 ++ Lib.decDigits m).toArray⟩
theorem padB_size (k m : Nat) : (padB k m).size = k + (Lib.decDigits m).length := by
  show (List.replicate k (48 : UInt8) ++ Lib.decDigits m).toArray.size = _
  simp
theorem padB_succ (k m : Nat) : (⟨#[48]⟩ : ByteArray) ++ padB k m = padB (k + 1) m := ba_ext (by
  rw [app_data]
  show [48] ++ (List.replicate k (48 : UInt8) ++ Lib.decDigits m) = List.replicate (k + 1) 48 ++ Lib.decDigits m
  rw [List.replicate_succ]; rfl)
set_option maxHeartbeats 2000000 in
set_option maxRecDepth 100000 in
theorem rsix_any (n : Nat) (w : World) : Calls Tryd.prog 47 #[.int .i64 n] w fun e w' => e = .returned (.string (six n)) ∧ Ext w w' := by
  have hm : n % 1000000 < 1000000 := Nat.mod_lt _ (by decide)
  have hdl := dec_len 5 (n % 1000000) (by omega)
  have hfin : ∀ k, k + (Lib.decDigits (n % 1000000)).length = 6 → padB k (n % 1000000) = six n := fun k hk => by
    unfold padB six
    rw [show k = 6 - (Lib.decDigits (n % 1000000)).length from by omega, pad_six _ hm]
  have HD : ∀ w, Calls Tryd.prog 50 #[.int .i64 ((n : Int) % 1000000)] w fun e w' => e = .returned (.string (padB 0 (n % 1000000))) ∧ Ext w w' := fun w => by
    have := decimal_any (n % 1000000) w (by omega)
    rw [show itoaB ((n % 1000000 : Nat) : Int) = padB 0 (n % 1000000) from ba_ext (by rw [itoaB_list]; rfl)] at this
    rwa [show ((n % 1000000 : Nat) : Int) = (n : Int) % 1000000 from by omega] at this
  have HF := Lib.hid hfin
  have hsz := fun k => padB_size k (n % 1000000)
  have hsu := fun k => padB_succ k (n % 1000000)
  have HS := Lib.hid hsz
  have HU := Lib.hid hsu
  clear hfin hsz hsu
  generalize (Lib.decDigits (n % 1000000)).length = L at *
  generalize n % 1000000 = m at *
  have hx := Ext.refl w
  go_enter Tryd.func47, Tryd.ntmps47
  go_wp2_with (go_at_call 50; with_reducible apply Calls.mono (HD _); rintro e8 w8 ⟨rfl, hx8⟩; replace hx := hx.trans hx8; clear hx8; dsimp only)
  rename World => w9
  go_loopw [3] (fun v wr => ∃ k : Nat, k + L ≤ 6 ∧ v = .string (padB k m) ∧ Ext w wr) (fun v _ => 6 - (match v with | .string x => x.size | _ => 0))
  case atStart => exact ⟨0, by omega, rfl, hx⟩
  case round =>
    clear hx
    obtain ⟨k, hk, rfl, hx⟩ := hrel
    have h1 := HS.out k
    have h2 := HU.out k
    have h3 := HS.out (k + 1)
    by_cases hlt : k + L < 6
    · have H2 := Lib.hid h2
      clear h2
      go_wp2
      rw [H2.out]
      exact ⟨⟨k + 1, by omega, rfl, hx⟩, by simp only [h1, h3]; omega⟩
    · have h4 := HF.out k (by omega)
      rw [h4] at h1 ⊢
      clear h2 h3
      go_wp2
      go_ret
      exact ⟨rfl, hx⟩
end Go.Proofs.YtmjdgcgmlgbfjaaDoor
