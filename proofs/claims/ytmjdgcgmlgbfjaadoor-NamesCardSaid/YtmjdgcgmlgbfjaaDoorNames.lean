/- The numbers and the errors: the law's code. -/
import Derived.Test.YtmjdgcgmlgbfjaaDoorErr
import Derived.Test.YtmjdgcgmlgbfjaaDoorShelf
set_option linter.unusedVariables false
set_option linter.unusedSimpArgs false
namespace Go.Proofs.YtmjdgcgmlgbfjaaDoor
open Go.RowKit
set_option maxHeartbeats 1000000 in
set_option maxRecDepth 100000 in
theorem sameNumbers_reads (b1 b2 c1 c2 : Nat) (l : List Int) (cs : List Value) (t : TypeId) (hcs : cs = l.map (Value.int .i64)) (hn : l.length ≤ 1000) :
    Reads Tryd.prog 10 #[.slice (some ⟨b1, 0, none⟩) l.length c1, .slice (some ⟨b2, 0, none⟩) l.length c2] [Var b1 cs t, Var b2 cs t] (.bool true) := by
  subst hcs
  intro w L0 hO
  simp only [List.map_cons, List.map_nil, List.cons_append, List.nil_append] at hO
  have h1 : ∀ w', Ext w w' → ∀ i (h : i < l.length), w'.cell? ⟨b1, i, none⟩ = some (.int .i64 l[i]) := fun w' hx i hi => by
    have : (Rs.frz (Var b1 (l.map (Value.int .i64)) t)).facts w := hO.factOf (.here _ _)
    exact hx.some (Var.cells (t := t) this.1 (by simp [hi]))
  have h2 : ∀ w', Ext w w' → ∀ i (h : i < l.length), w'.cell? ⟨b2, i, none⟩ = some (.int .i64 l[i]) := fun w' hx i hi => by
    have : (Rs.frz (Var b2 (l.map (Value.int .i64)) t)).facts w := hO.factOf (.there _ (.here _ _))
    exact hx.some (Var.cells (t := t) this.1 (by simp [hi]))
  clear hO
  go_enter Tryd.func10, Tryd.ntmps10
  go_wp2
  go_loopw [5] (fun i wr => ∃ k : Nat, k ≤ l.length ∧ i = .int .i64 k ∧ Ext w wr) (fun i _ => l.length - (intOf i).toNat)
  case atStart => exact ⟨0, by omega, rfl, Ext.refl _⟩
  case round =>
    obtain ⟨k, hk, rfl, hx⟩ := hrel
    rename World => w1
    by_cases hlt : k < l.length
    · have hO : Own (fun _ => False) w1 w1 [.imm fun _ => True] := Own.base w1 _ fun _ _ => trivial
      have h1k := fun w' hx => h1 w' hx k hlt
      have h2k := fun w' hx => h2 w' hx k hlt
      generalize l[k] = z at *
      clear h1 h2
      have H1 := Lib.hid h1k
      have H2 := Lib.hid h2k
      clear h1k h2k
      go_wp2_with fail
      refine wp_region_run (fun _ => True) (fun _ _ _ _ => trivial) trivial ((0, 0) :: (0, 1) :: (0, 2) :: (1, 3) :: (0, 4) :: (0, 5) :: (0, 6) :: (1, 7) :: (0, 8) :: []) (by kernel_rfl) (by kernel_rfl) rfl (fun _ _ d _ _ h => by cases d <;> exact h) ?_
      intro w9 hx9; replace hx := hx.trans hx9
      (repeat (first
       | (apply inRun_p _ rfl rfl rfl; focus (intro w8 K8 hK8; (repeat (first | go_skip | go_guarded | go_step)); exact hK8))
       | (apply inRun_l _ rfl rfl rfl; focus (intro w8 hx8 K8 hK8; have f1 := H1.out w8 (hx.trans hx8); have f2 := H2.out w8 (hx.trans hx8); (repeat (first | go_skip | go_guarded | go_step)); exact hK8))))
      refine inRun_nil ?_
      go_wp2_with fail
      exact ⟨⟨k + 1, by omega, by go_num, hx⟩, by simp [intOf]; omega⟩
    · go_wp2_with fail
      go_ret
      exact ⟨rfl, hx⟩
def errText : ByteArray := ⟨#[104, 97, 121, 119, 97, 105, 110, 58, 32, 101, 114, 114, 111, 114, 32, 49, 50]⟩
set_option maxHeartbeats 1000000 in
theorem errno_any (w : World) : Calls Tryd.prog 11 #[.int .i64 12] w fun e w' => e = .returned (.string errText) ∧ w' = w := by
  have hd : (⟨(Lib.decDigits 12).toArray⟩ : ByteArray) = ⟨#[49, 50]⟩ := by rw [Lib.decDigits_two (by decide) (by decide)]; rfl
  go_enter Tryd.func11, Tryd.ntmps11
  go_wp2_with (go_at_call 45; refine (Tryd.strconv_Itoa_small 12 (by decide) _).mono ?_; rintro e w' ⟨rfl, rfl⟩; dsimp only; rw [hd])
  go_ret
  exact ⟨rfl, rfl⟩
def numsL : List Int := [6, 40, 12, 40, 40, 999999, 9, 1000000, 96, 200, 4, 80, 200]
def errsL : List Value := [.iface 23 (.int .i64 1), .iface 23 (.int .i64 2), .iface 23 (.int .i64 3), .iface 23 (.int .i64 4), .iface 23 (.int .i64 5), .iface 23 (.int .i64 6), .iface 23 (.int .i64 7), .iface 23 (.int .i64 8), .iface 23 (.int .i64 9), .iface 23 (.int .i64 10), .iface 23 (.int .i64 11), .iface 23 (.int .i64 12)]
theorem errs_at : ∀ (k : Nat), k < 12 → errsL[k]? = some (errV (k + 1))
  | 0, _ => rfl
  | 1, _ => rfl
  | 2, _ => rfl
  | 3, _ => rfl
  | 4, _ => rfl
  | 5, _ => rfl
  | 6, _ => rfl
  | 7, _ => rfl
  | 8, _ => rfl
  | 9, _ => rfl
  | 10, _ => rfl
  | 11, _ => rfl
  | k + 12, h => by omega
set_option maxHeartbeats 4000000 in
set_option maxRecDepth 100000 in
theorem names_any (W : World) : Calls Tryd.prog 3 #[] W fun e w' => e = .returned (.bool true) ∧ Ext W w' := by
  have hO := Own.start W (fun _ => False)
  go_enter Tryd.func3, Tryd.ntmps3
  go_wp2_with (first | (with_reducible refine wpList_alloc_own hO ?_; clear hO; intro w9 hO; ((try clear hf); have hf := hO.facts; (try simp only [Facts_nil, Facts_cons, Var_facts, Row2_facts, RowFree_some, imm_facts, frz_facts, pure_facts, many_facts, BoxF_one, BoxF_cons, Nat.zero_add, Nat.reduceAdd, and_true, true_and, List.map_cons, List.map_nil, List.cons_append, List.nil_append] at hf))) | (with_reducible apply wpList_set_own; (focus (first | (with_reducible apply Own.set; (focus (with_reducible apply hO)); (repeat (first | with_reducible exact Put.here _ _ _ | with_reducible apply Put.there)); done) | (with_reducible apply Own.setRow; (focus (with_reducible apply hO)); (focus (repeat (first | with_reducible exact Put.here _ _ _ | with_reducible apply Put.there))); first | assumption | (simp; omega) | (simp; assumption)) | ((repeat' (first | with_reducible apply hO | with_reducible apply Own.set)); all_goals (repeat (first | with_reducible exact Put.here _ _ _ | with_reducible apply Put.there)); done))); clear hO; intro w9 hO; (try dsimp only [List.set] at hO); ((try clear hf); have hf := hO.facts; (try simp only [Facts_nil, Facts_cons, Var_facts, Row2_facts, RowFree_some, imm_facts, frz_facts, pure_facts, many_facts, BoxF_one, BoxF_cons, Nat.zero_add, Nat.reduceAdd, and_true, true_and, List.map_cons, List.map_nil, List.cons_append, List.nil_append] at hf))) | (with_reducible refine wpList_drew_own hO ?_; clear hO; intro w9 hO; ((try clear hf); have hf := hO.facts; (try simp only [Facts_nil, Facts_cons, Var_facts, Row2_facts, RowFree_some, imm_facts, frz_facts, pure_facts, many_facts, BoxF_one, BoxF_cons, Nat.zero_add, Nat.reduceAdd, and_true, true_and, List.map_cons, List.map_nil, List.cons_append, List.nil_append] at hf))) | (with_reducible refine wp_alloc_own hO ?_; clear hO; intro w9 hO; ((try clear hf); have hf := hO.facts; (try simp only [Facts_nil, Facts_cons, Var_facts, Row2_facts, RowFree_some, imm_facts, frz_facts, pure_facts, many_facts, BoxF_one, BoxF_cons, Nat.zero_add, Nat.reduceAdd, and_true, true_and, List.map_cons, List.map_nil, List.cons_append, List.nil_append] at hf))) | (with_reducible apply wp_set_own; (focus (first | (with_reducible apply Own.set; (focus (with_reducible apply hO)); (repeat (first | with_reducible exact Put.here _ _ _ | with_reducible apply Put.there)); done) | (with_reducible apply Own.setRow; (focus (with_reducible apply hO)); (focus (repeat (first | with_reducible exact Put.here _ _ _ | with_reducible apply Put.there))); first | assumption | (simp; omega) | (simp; assumption)) | ((repeat' (first | with_reducible apply hO | with_reducible apply Own.set)); all_goals (repeat (first | with_reducible exact Put.here _ _ _ | with_reducible apply Put.there)); done))); clear hO; intro w9 hO; (try dsimp only [List.set] at hO); ((try clear hf); have hf := hO.facts; (try simp only [Facts_nil, Facts_cons, Var_facts, Row2_facts, RowFree_some, imm_facts, frz_facts, pure_facts, many_facts, BoxF_one, BoxF_cons, Nat.zero_add, Nat.reduceAdd, and_true, true_and, List.map_cons, List.map_nil, List.cons_append, List.nil_append] at hf))) | (with_reducible refine wp_drew_own hO ?_; clear hO; intro w9 hO; ((try clear hf); have hf := hO.facts; (try simp only [Facts_nil, Facts_cons, Var_facts, Row2_facts, RowFree_some, imm_facts, frz_facts, pure_facts, many_facts, BoxF_one, BoxF_cons, Nat.zero_add, Nat.reduceAdd, and_true, true_and, List.map_cons, List.map_nil, List.cons_append, List.nil_append] at hf))) | (with_reducible refine bodyPost_alloc_own hO ?_; clear hO; intro w9 hO; ((try clear hf); have hf := hO.facts; (try simp only [Facts_nil, Facts_cons, Var_facts, Row2_facts, RowFree_some, imm_facts, frz_facts, pure_facts, many_facts, BoxF_one, BoxF_cons, Nat.zero_add, Nat.reduceAdd, and_true, true_and, List.map_cons, List.map_nil, List.cons_append, List.nil_append] at hf))) | (with_reducible apply bodyPost_set_own; (focus (first | (with_reducible apply Own.set; (focus (with_reducible apply hO)); (repeat (first | with_reducible exact Put.here _ _ _ | with_reducible apply Put.there)); done) | (with_reducible apply Own.setRow; (focus (with_reducible apply hO)); (focus (repeat (first | with_reducible exact Put.here _ _ _ | with_reducible apply Put.there))); first | assumption | (simp; omega) | (simp; assumption)) | ((repeat' (first | with_reducible apply hO | with_reducible apply Own.set)); all_goals (repeat (first | with_reducible exact Put.here _ _ _ | with_reducible apply Put.there)); done))); clear hO; intro w9 hO; (try dsimp only [List.set] at hO); ((try clear hf); have hf := hO.facts; (try simp only [Facts_nil, Facts_cons, Var_facts, Row2_facts, RowFree_some, imm_facts, frz_facts, pure_facts, many_facts, BoxF_one, BoxF_cons, Nat.zero_add, Nat.reduceAdd, and_true, true_and, List.map_cons, List.map_nil, List.cons_append, List.nil_append] at hf))) | (with_reducible refine bodyPost_drew_own hO ?_; clear hO; intro w9 hO; ((try clear hf); have hf := hO.facts; (try simp only [Facts_nil, Facts_cons, Var_facts, Row2_facts, RowFree_some, imm_facts, frz_facts, pure_facts, many_facts, BoxF_one, BoxF_cons, Nat.zero_add, Nat.reduceAdd, and_true, true_and, List.map_cons, List.map_nil, List.cons_append, List.nil_append] at hf)))) -- M1
  have hc := fun (k : Nat) (hk : k < 12) => Own.varAt (cs := [.iface 23 (.int .i64 1), .iface 23 (.int .i64 2), .iface 23 (.int .i64 3), .iface 23 (.int .i64 4), .iface 23 (.int .i64 5), .iface 23 (.int .i64 6), .iface 23 (.int .i64 7), .iface 23 (.int .i64 8), .iface 23 (.int .i64 9), .iface 23 (.int .i64 10), .iface 23 (.int .i64 11), .iface 23 (.int .i64 12)]) (t := 27) (k := k) hO (by repeat (first | with_reducible exact Pick.here _ _ | with_reducible apply Pick.there)) (errs_at k hk)
  have HC := Lib.hid hc
  clear hc hf
  go_loopw [4] (fun i wr => ∃ k : Nat, k ≤ 12 ∧ i = .int .i64 k ∧ Ext w9 wr) (fun i _ => 12 - (intOf i).toNat)
  case atStart => exact ⟨0, by omega, rfl, Ext.refl _⟩
  case round =>
    obtain ⟨k, hk, rfl, hx⟩ := hrel
    rename World => w1
    by_cases hlt : k < 12
    · have hs : ∀ w, Calls Tryd.prog 9 #[errV (k + 1), .int .i64 ((k : Int) + 1)] w fun e w' => e = .returned (.bool true) ∧ w' = w := fun w => by
        have := same_any (k + 1) (k + 1) w (by omega) (by omega)
        rwa [show (k + 1 == k + 1) = true from by simp] at this
      have hc := hx.some (HC.out k hlt)
      go_wp2_with (go_at_call 9; refine (hs _).mono ?_; rintro e w' ⟨rfl, rfl⟩; dsimp only)
      exact ⟨⟨k + 1, by omega, by go_num, hx⟩, by simp [intOf]; omega⟩
    · replace hO := hO.ext hx
      go_wp2_with (first | (go_at_call 10; (with_reducible refine Reads.use hO (sameNumbers_reads _ _ _ _ numsL [.int .i64 6, .int .i64 40, .int .i64 12, .int .i64 40, .int .i64 40, .int .i64 999999, .int .i64 9, .int .i64 1000000, .int .i64 96, .int .i64 200, .int .i64 4, .int .i64 80, .int .i64 200] 3 rfl (by decide)) (by repeat (first | with_reducible exact Takes.nil _ | with_reducible apply Takes.cons | with_reducible exact Pick.here _ _ | with_reducible apply Pick.there)) ?_; clear hO; intro w9 hx9 hO; clear hx9; dsimp only; ((try clear hf); have hf := hO.facts; (try simp only [Facts_nil, Facts_cons, Var_facts, Row2_facts, RowFree_some, imm_facts, frz_facts, pure_facts, many_facts, BoxF_one, BoxF_cons, Nat.zero_add, Nat.reduceAdd, and_true, true_and, List.map_cons, List.map_nil, List.cons_append, List.nil_append] at hf)))) | (go_at_call 11; refine (errno_any _).mono ?_; rintro e w' ⟨rfl, rfl⟩; dsimp only [errText]))
      go_ret
      exact ⟨rfl, hO.toExt⟩
end Go.Proofs.YtmjdgcgmlgbfjaaDoor
