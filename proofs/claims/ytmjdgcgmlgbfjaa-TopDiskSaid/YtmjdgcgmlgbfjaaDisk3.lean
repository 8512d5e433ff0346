/- Package disk and its reference: what is written, flushed. -/
import Derived.Test.YtmjdgcgmlgbfjaaDisk2
set_option linter.unusedVariables false
set_option linter.unusedSimpArgs false
namespace Go.Proofs.Ytmjdgcgmlgbfjaa
open Go.RowKit

def Dk.writeR (d : Dk) (n : Int) (s : ByteArray) : Nat × Dk := if n < 0 ∨ d.now.length ≤ n ∨ 96 < s.size then (1, d) else if d.step.1 = 0 then (0, d.step.2.write n.toNat s) else (10, d.step.2)
theorem step_code (d : Dk) : d.step.1 = 0 ∨ d.step.1 = 10 := by
  unfold Dk.step; split
  · exact .inr rfl
  · split
    · exact .inr rfl
    · exact .inl rfl
set_option maxHeartbeats 1000000 in
set_option maxRecDepth 100000 in
theorem write_does (p : Nat) (d : Dk) (n : Int) (s : ByteArray) (hf1 : -1 ≤ d.fuse) (hf2 : d.fuse ≤ 9223372036854775807) (hw : d.wait.length ≤ 1000000) :
    Does Try.prog 32 #[.pointer (some ⟨p, 0, none⟩), .int .i64 n, .string s] [DiskR p d] (fun _ : Unit => (errV (d.writeR n s).1, [DiskR p (d.writeR n s).2])) := by
  by_cases hb : n < 0 ∨ d.now.length ≤ n ∨ 96 < s.size
  · rw [show d.writeR n s = (1, d) from by simp [Dk.writeR, hb]]
    intro S W w L0 hO; simp only [List.cons_append, List.nil_append] at hO
    go_enter Try.func32, Try.ntmps32
    obtain ⟨⟨⟨ka, kc⟩, ⟨na, nc⟩, ⟨wa, wc⟩⟩, hf⟩ := hO.facts.1; simp only [Facts_nil, Facts_cons, Var_facts, Row2_facts, RowFree_some, imm_facts, frz_facts, pure_facts, many_facts, BoxF_one, BoxF_cons, Nat.zero_add, Nat.reduceAdd, and_true, true_and, List.map_cons, List.map_nil, List.cons_append, List.nil_append] at hf
    go_wp2_with fail
    all_goals (first | (exfalso; omega) | (go_ret; exact ⟨(), rfl, hO⟩))
  · obtain ⟨i, rfl⟩ := Int.eq_ofNat_of_zero_le (show 0 ≤ n by omega)
    rcases step_code d with hs | hs
    · have := write_ok p d d.step.2 i s hf1 hf2 (by omega) (by omega) (by rw [← hs]) hw
      rw [show d.writeR (i : Int) s = (0, d.step.2.write i s) from by unfold Dk.writeR; rw [if_neg hb, if_pos hs]; simp]
      exact this
    · have H := step_does p d hf1 hf2
      rw [hs] at H
      rw [show d.writeR (i : Int) s = (10, d.step.2) from by unfold Dk.writeR; rw [if_neg hb, if_neg (by omega)]]
      clear hs
      generalize d.step.2 = d2 at *
      have e : errV 10 = .iface 84 (.int .i64 10) := rfl
      rw [e] at H ⊢
      clear e
      intro S W w L0 hO; simp only [List.cons_append, List.nil_append] at hO
      go_enter Try.func32, Try.ntmps32
      obtain ⟨⟨⟨ka, kc⟩, ⟨na, nc⟩, ⟨wa, wc⟩⟩, hf⟩ := hO.facts.1; simp only [Facts_nil, Facts_cons, Var_facts, Row2_facts, RowFree_some, imm_facts, frz_facts, pure_facts, many_facts, BoxF_one, BoxF_cons, Nat.zero_add, Nat.reduceAdd, and_true, true_and, List.map_cons, List.map_nil, List.cons_append, List.nil_append] at hf
      go_wp2_with ((go_at_call 51; (with_reducible refine Does.use hO (H) (by repeat (first | with_reducible exact Takes.nil _ | with_reducible apply Takes.cons | with_reducible exact Pick.here _ _ | with_reducible apply Pick.there)) ?_; clear hO; intro x9 w9 hO; dsimp only at hO ⊢; simp only [List.cons_append, List.nil_append] at hO; ((try clear hf); have hf := hO.facts; (try simp only [Facts_nil, Facts_cons, Var_facts, Row2_facts, RowFree_some, imm_facts, frz_facts, pure_facts, many_facts, BoxF_one, BoxF_cons, Nat.zero_add, Nat.reduceAdd, and_true, true_and, List.map_cons, List.map_nil, List.cons_append, List.nil_append] at hf)))))
      all_goals (first | (exfalso; omega) | (go_ret; exact ⟨(), rfl, hO⟩))
set_option maxHeartbeats 1000000 in
set_option maxRecDepth 100000 in
theorem rwrite_does (p : Nat) (d : Dk) (n : Int) (s : ByteArray) (hf1 : -1 ≤ d.fuse) (hf2 : d.fuse ≤ 9223372036854775807) (hw : d.wait.length ≤ 1000000) :
    Does Try.prog 33 #[.pointer (some ⟨p, 0, none⟩), .int .i64 n, .string s] [RDiskR p d] (fun _ : Unit => (.int .i64 (d.writeR n s).1, [RDiskR p (d.writeR n s).2])) := by
  by_cases hb : n < 0 ∨ d.now.length ≤ n ∨ 96 < s.size
  · rw [show d.writeR n s = (1, d) from by simp [Dk.writeR, hb]]
    intro S W w L0 hO; simp only [List.cons_append, List.nil_append] at hO
    go_enter Try.func33, Try.ntmps33
    obtain ⟨⟨⟨ka, kc⟩, ⟨na, nc⟩, ⟨wa, wc⟩⟩, hf⟩ := hO.facts.1; simp only [Facts_nil, Facts_cons, Var_facts, Row2_facts, RowFree_some, imm_facts, frz_facts, pure_facts, many_facts, BoxF_one, BoxF_cons, Nat.zero_add, Nat.reduceAdd, and_true, true_and, List.map_cons, List.map_nil, List.cons_append, List.nil_append] at hf
    go_wp2_with fail
    all_goals (first | (exfalso; omega) | (go_ret; exact ⟨(), rfl, hO⟩))
  · obtain ⟨i, rfl⟩ := Int.eq_ofNat_of_zero_le (show 0 ≤ n by omega)
    rcases step_code d with hs | hs
    · have := rwrite_ok p d d.step.2 i s hf1 hf2 (by omega) (by omega) (by rw [← hs]) hw
      rw [show d.writeR (i : Int) s = (0, d.step.2.write i s) from by unfold Dk.writeR; rw [if_neg hb, if_pos hs]; simp]
      exact this
    · have H : Does Try.prog 52 #[.pointer (some ⟨p, 0, none⟩)] [RDiskR p d] (fun _ : Unit => (.int .i64 10, [RDiskR p d.step.2])) := by
        have H := rstep_does p d hf1 hf2
        rw [hs] at H
        exact H
      rw [show d.writeR (i : Int) s = (10, d.step.2) from by unfold Dk.writeR; rw [if_neg hb, if_neg (by omega)]]
      clear hs
      generalize d.step.2 = d2 at *
      intro S W w L0 hO; simp only [List.cons_append, List.nil_append] at hO
      go_enter Try.func33, Try.ntmps33
      obtain ⟨⟨⟨ka, kc⟩, ⟨na, nc⟩, ⟨wa, wc⟩⟩, hf⟩ := hO.facts.1; simp only [Facts_nil, Facts_cons, Var_facts, Row2_facts, RowFree_some, imm_facts, frz_facts, pure_facts, many_facts, BoxF_one, BoxF_cons, Nat.zero_add, Nat.reduceAdd, and_true, true_and, List.map_cons, List.map_nil, List.cons_append, List.nil_append] at hf
      go_wp2_with ((go_at_call 52; (with_reducible refine Does.use hO (H) (by repeat (first | with_reducible exact Takes.nil _ | with_reducible apply Takes.cons | with_reducible exact Pick.here _ _ | with_reducible apply Pick.there)) ?_; clear hO; intro x9 w9 hO; dsimp only at hO ⊢; simp only [List.cons_append, List.nil_append] at hO; ((try clear hf); have hf := hO.facts; (try simp only [Facts_nil, Facts_cons, Var_facts, Row2_facts, RowFree_some, imm_facts, frz_facts, pure_facts, many_facts, BoxF_one, BoxF_cons, Nat.zero_add, Nat.reduceAdd, and_true, true_and, List.map_cons, List.map_nil, List.cons_append, List.nil_append] at hf)))))
      all_goals (first | (exfalso; omega) | (go_ret; exact ⟨(), rfl, hO⟩))
def Dk.flush (d : Dk) : Nat × Dk := if d.step.1 = 0 then (0, { d.step.2 with kept := d.step.2.now, wait := [] }) else (10, d.step.2)
theorem step_same (d : Dk) : d.step.2.now = d.now ∧ d.step.2.kept = d.kept := by
  unfold Dk.step; split
  · exact ⟨rfl, rfl⟩
  · split <;> exact ⟨rfl, rfl⟩
theorem Try.sizeStr : (Try.prog.info? 9).map (·.size) = some 1 := by kernel_rfl
theorem ones_map {α : Type} {f : α → Value} (h : ∀ x, (f x).oneCell' = true) (l : List α) : ∀ u ∈ l.map f, u.oneCell' = true := fun u hu => by
  obtain ⟨x, _, rfl⟩ := List.mem_map.1 hu; exact h x
theorem splice_all {α : Type} (xs cs : List α) (h : cs.length = xs.length) : splice xs 0 cs = cs := by
  unfold splice; rw [List.drop_of_length_le (by omega)]; simp
set_option maxHeartbeats 1000000 in
set_option maxRecDepth 100000 in
theorem flush_does (p : Nat) (d : Dk) (hf1 : -1 ≤ d.fuse) (hf2 : d.fuse ≤ 9223372036854775807) (hn : 0 < d.now.length) (hk : d.kept.length = d.now.length) :
    Does Try.prog 36 #[.pointer (some ⟨p, 0, none⟩)] [DiskR p d] (fun _ : Unit => (errV d.flush.1, [DiskR p d.flush.2])) := by
  have H := step_does p d hf1 hf2
  have hss := step_same d
  rcases step_code d with hs | hs
  · rw [show d.flush = (0, { d.step.2 with kept := d.step.2.now, wait := [] }) from by simp [Dk.flush, hs]]
    rw [hs] at H
    clear hs
    generalize d.step.2 = d2 at *
    obtain ⟨kept', now', wait', fuse', down'⟩ := d2
    dsimp only at hss
    obtain ⟨rfl, rfl⟩ := hss
    have e : errV 0 = .nilIface := rfl
    rw [e] at H ⊢
    clear e
    intro S W w L0 hO; simp only [List.cons_append, List.nil_append] at hO
    go_enter Try.func36, Try.ntmps36
    go_wp2_with ((go_at_call 51; (with_reducible refine Does.use hO (H) (by repeat (first | with_reducible exact Takes.nil _ | with_reducible apply Takes.cons | with_reducible exact Pick.here _ _ | with_reducible apply Pick.there)) ?_; clear hO; intro x9 w9 hO; dsimp only at hO ⊢; simp only [List.cons_append, List.nil_append] at hO; ((try clear hf); have hf := hO.facts; (try simp only [Facts_nil, Facts_cons, Var_facts, Row2_facts, RowFree_some, imm_facts, frz_facts, pure_facts, many_facts, BoxF_one, BoxF_cons, Nat.zero_add, Nat.reduceAdd, and_true, true_and, List.map_cons, List.map_nil, List.cons_append, List.nil_append] at hf)); obtain ⟨⟨⟨ka, kc⟩, ⟨na, nc⟩, ⟨wa, wc⟩⟩, hO⟩ := hO.ofEx; replace hO := hO.unpack; dsimp only at hO; simp only [List.cons_append, List.nil_append] at hO; ((try clear hf); have hf := hO.facts; (try simp only [Facts_nil, Facts_cons, Var_facts, Row2_facts, RowFree_some, imm_facts, frz_facts, pure_facts, many_facts, BoxF_one, BoxF_cons, Nat.zero_add, Nat.reduceAdd, and_true, true_and, List.map_cons, List.map_nil, List.cons_append, List.nil_append] at hf)))))
    obtain ⟨ng, rfl, hfz, hnb⟩ := hO.rowAt (a := na) (n := d.now.length) (e := 9) (xs := d.now.map .string) (cap := nc) (by repeat (first | with_reducible exact Pick.here _ _ | with_reducible apply Pick.there)) hn
    obtain ⟨kg, rfl, hfz, hnb⟩ := hO.rowAt (a := ka) (n := d.kept.length) (e := 9) (xs := d.kept.map .string) (cap := kc) (by repeat (first | with_reducible exact Pick.here _ _ | with_reducible apply Pick.there)) (by omega)
    clear hfz hnb
    rw [hk] at hO
    ((try clear hf); have hf := hO.facts; (try simp only [Facts_nil, Facts_cons, Var_facts, Row2_facts, RowFree_some, imm_facts, frz_facts, pure_facts, many_facts, BoxF_one, BoxF_cons, Nat.zero_add, Nat.reduceAdd, and_true, true_and, List.map_cons, List.map_nil, List.cons_append, List.nil_append] at hf))
    (refine wp_region_run (fun _ => True) (fun _ _ _ _ => trivial) trivial ((0, 0) :: (0, 1) :: (0, 2) :: (1, 3) :: (0, 4) :: (0, 5) :: (0, 6) :: (1, 7) :: (5, 8) :: []) (by kernel_rfl) (by kernel_rfl) rfl (fun _ _ d _ _ h => by cases d <;> exact h) ?_; intro w9 hx9; replace hO := hO.ext hx9; clear hx9; ((try clear hf); have hf := hO.facts; (try simp only [Facts_nil, Facts_cons, Var_facts, Row2_facts, RowFree_some, imm_facts, frz_facts, pure_facts, many_facts, BoxF_one, BoxF_cons, Nat.zero_add, Nat.reduceAdd, and_true, true_and, List.map_cons, List.map_nil, List.cons_append, List.nil_append] at hf)); (repeat (first | (apply inRun_p _ rfl rfl rfl; focus (intro w8 K8 hK8; (repeat (first | go_skip | go_guarded | go_step)); exact hK8)) | (apply inRun_l _ rfl rfl rfl; focus (intro w8 hx8 K8 hK8; have hO := hO.ext hx8; ((try clear hf); have hf := hO.facts; (try simp only [Facts_nil, Facts_cons, Var_facts, Row2_facts, RowFree_some, imm_facts, frz_facts, pure_facts, many_facts, BoxF_one, BoxF_cons, Nat.zero_add, Nat.reduceAdd, and_true, true_and, List.map_cons, List.map_nil, List.cons_append, List.nil_append] at hf)); skip; (repeat (first | go_skip | go_guarded | go_step)); exact hK8)) | (apply inRun_q _ rfl; (focus (intro w8 hx8 K8 hK8; have hO := hO.ext hx8; ((try clear hf); have hf := hO.facts; (try simp only [Facts_nil, Facts_cons, Var_facts, Row2_facts, RowFree_some, imm_facts, frz_facts, pure_facts, many_facts, BoxF_one, BoxF_cons, Nat.zero_add, Nat.reduceAdd, and_true, true_and, List.map_cons, List.map_nil, List.cons_append, List.nil_append] at hf)); (repeat (first | go_skip | go_guarded | go_step | fail)); (first | exact (by repeat (first | exact Ext.refl _ | assumption | refine Ext.of_drew ?_ | refine Ext.alloc ?_ _ | refine Ext.drew ?_ | refine Ext.trans ?_ (by assumption))) | exact hK8 _ (by repeat (first | exact Ext.refl _ | assumption | refine Ext.of_drew ?_ | refine Ext.alloc ?_ _ | refine Ext.drew ?_ | refine Ext.trans ?_ (by assumption)))))); (focus (exact rfl)); intro w8 hx8; replace hO := hO.ext hx8; clear hx8; ((try clear hf); have hf := hO.facts; (try simp only [Facts_nil, Facts_cons, Var_facts, Row2_facts, RowFree_some, imm_facts, frz_facts, pure_facts, many_facts, BoxF_one, BoxF_cons, Nat.zero_add, Nat.reduceAdd, and_true, true_and, List.map_cons, List.map_nil, List.cons_append, List.nil_append] at hf))))))
    refine inRun_d rfl ?_; intro K8 hK8
    refine wpList_copy_own4 hO (g := kg) (e := 9) (n := d.now.length) (xs := (d.kept.map .string)) (by repeat (first | with_reducible exact Pick.here _ _ | with_reducible apply Pick.there)) rfl (.tmp 11) (.tmp 15) 41 41 rfl Try.underlying41 Try.sizeStr 0 d.now.length _ ⟨ng, 0, none⟩ d.now.length _ rfl rfl (d.now.map .string) (by simp; try omega) (fun j v hj => by rw [add_off]; exact vals_src (hO.vals (xs := (d.now.map .string)) (e := 9) (by repeat (first | with_reducible exact Pick.here _ _ | with_reducible apply Pick.there))) j v hj) (by simp; try omega) (ones_map (fun _ => rfl) _) ?_; clear hO; intro w9 hO; rw [splice_all _ _ (by simp; try omega)] at hO; ((try clear hf); have hf := hO.facts; (try simp only [Facts_nil, Facts_cons, Var_facts, Row2_facts, RowFree_some, imm_facts, frz_facts, pure_facts, many_facts, BoxF_one, BoxF_cons, Nat.zero_add, Nat.reduceAdd, and_true, true_and, List.map_cons, List.map_nil, List.cons_append, List.nil_append] at hf))
    go_step; refine hK8 _ _ trivial ?_; clear hK8 K8
    refine inRun_nil ?_
    go_wp2_with (first | (with_reducible refine wpList_alloc_own hO ?_; clear hO; intro w9 hO; ((try clear hf); have hf := hO.facts; (try simp only [Facts_nil, Facts_cons, Var_facts, Row2_facts, RowFree_some, imm_facts, frz_facts, pure_facts, many_facts, BoxF_one, BoxF_cons, Nat.zero_add, Nat.reduceAdd, and_true, true_and, List.map_cons, List.map_nil, List.cons_append, List.nil_append] at hf))) | (with_reducible apply wpList_set_own; (focus (first | (with_reducible apply Own.set; (focus (with_reducible apply hO)); (repeat (first | with_reducible exact Put.here _ _ _ | with_reducible apply Put.there)); done) | (with_reducible apply Own.setRow; (focus (with_reducible apply hO)); (focus (repeat (first | with_reducible exact Put.here _ _ _ | with_reducible apply Put.there))); first | assumption | (simp; omega) | (simp; assumption)) | ((repeat' (first | with_reducible apply hO | with_reducible apply Own.set)); all_goals (repeat (first | with_reducible exact Put.here _ _ _ | with_reducible apply Put.there)); done))); clear hO; intro w9 hO; (try dsimp only [List.set] at hO); ((try clear hf); have hf := hO.facts; (try simp only [Facts_nil, Facts_cons, Var_facts, Row2_facts, RowFree_some, imm_facts, frz_facts, pure_facts, many_facts, BoxF_one, BoxF_cons, Nat.zero_add, Nat.reduceAdd, and_true, true_and, List.map_cons, List.map_nil, List.cons_append, List.nil_append] at hf))) | (with_reducible refine wpList_drew_own hO ?_; clear hO; intro w9 hO; ((try clear hf); have hf := hO.facts; (try simp only [Facts_nil, Facts_cons, Var_facts, Row2_facts, RowFree_some, imm_facts, frz_facts, pure_facts, many_facts, BoxF_one, BoxF_cons, Nat.zero_add, Nat.reduceAdd, and_true, true_and, List.map_cons, List.map_nil, List.cons_append, List.nil_append] at hf))) | (with_reducible refine wp_alloc_own hO ?_; clear hO; intro w9 hO; ((try clear hf); have hf := hO.facts; (try simp only [Facts_nil, Facts_cons, Var_facts, Row2_facts, RowFree_some, imm_facts, frz_facts, pure_facts, many_facts, BoxF_one, BoxF_cons, Nat.zero_add, Nat.reduceAdd, and_true, true_and, List.map_cons, List.map_nil, List.cons_append, List.nil_append] at hf))) | (with_reducible apply wp_set_own; (focus (first | (with_reducible apply Own.set; (focus (with_reducible apply hO)); (repeat (first | with_reducible exact Put.here _ _ _ | with_reducible apply Put.there)); done) | (with_reducible apply Own.setRow; (focus (with_reducible apply hO)); (focus (repeat (first | with_reducible exact Put.here _ _ _ | with_reducible apply Put.there))); first | assumption | (simp; omega) | (simp; assumption)) | ((repeat' (first | with_reducible apply hO | with_reducible apply Own.set)); all_goals (repeat (first | with_reducible exact Put.here _ _ _ | with_reducible apply Put.there)); done))); clear hO; intro w9 hO; (try dsimp only [List.set] at hO); ((try clear hf); have hf := hO.facts; (try simp only [Facts_nil, Facts_cons, Var_facts, Row2_facts, RowFree_some, imm_facts, frz_facts, pure_facts, many_facts, BoxF_one, BoxF_cons, Nat.zero_add, Nat.reduceAdd, and_true, true_and, List.map_cons, List.map_nil, List.cons_append, List.nil_append] at hf))) | (with_reducible refine wp_drew_own hO ?_; clear hO; intro w9 hO; ((try clear hf); have hf := hO.facts; (try simp only [Facts_nil, Facts_cons, Var_facts, Row2_facts, RowFree_some, imm_facts, frz_facts, pure_facts, many_facts, BoxF_one, BoxF_cons, Nat.zero_add, Nat.reduceAdd, and_true, true_and, List.map_cons, List.map_nil, List.cons_append, List.nil_append] at hf))) | (with_reducible refine bodyPost_alloc_own hO ?_; clear hO; intro w9 hO; ((try clear hf); have hf := hO.facts; (try simp only [Facts_nil, Facts_cons, Var_facts, Row2_facts, RowFree_some, imm_facts, frz_facts, pure_facts, many_facts, BoxF_one, BoxF_cons, Nat.zero_add, Nat.reduceAdd, and_true, true_and, List.map_cons, List.map_nil, List.cons_append, List.nil_append] at hf))) | (with_reducible apply bodyPost_set_own; (focus (first | (with_reducible apply Own.set; (focus (with_reducible apply hO)); (repeat (first | with_reducible exact Put.here _ _ _ | with_reducible apply Put.there)); done) | (with_reducible apply Own.setRow; (focus (with_reducible apply hO)); (focus (repeat (first | with_reducible exact Put.here _ _ _ | with_reducible apply Put.there))); first | assumption | (simp; omega) | (simp; assumption)) | ((repeat' (first | with_reducible apply hO | with_reducible apply Own.set)); all_goals (repeat (first | with_reducible exact Put.here _ _ _ | with_reducible apply Put.there)); done))); clear hO; intro w9 hO; (try dsimp only [List.set] at hO); ((try clear hf); have hf := hO.facts; (try simp only [Facts_nil, Facts_cons, Var_facts, Row2_facts, RowFree_some, imm_facts, frz_facts, pure_facts, many_facts, BoxF_one, BoxF_cons, Nat.zero_add, Nat.reduceAdd, and_true, true_and, List.map_cons, List.map_nil, List.cons_append, List.nil_append] at hf))) | (with_reducible refine bodyPost_drew_own hO ?_; clear hO; intro w9 hO; ((try clear hf); have hf := hO.facts; (try simp only [Facts_nil, Facts_cons, Var_facts, Row2_facts, RowFree_some, imm_facts, frz_facts, pure_facts, many_facts, BoxF_one, BoxF_cons, Nat.zero_add, Nat.reduceAdd, and_true, true_and, List.map_cons, List.map_nil, List.cons_append, List.nil_append] at hf))))
    obtain hO' := hO.nil 94 2
    clear hO; replace hO := hO'
    go_ret
    refine ⟨(), rfl, ?_⟩
    refine Own.toEx ((some ⟨kg, 0, none⟩, kc), (some ⟨ng, 0, none⟩, nc), (none, 0)) (Own.pack ?_)
    simp only [List.length_nil, List.flatMap_nil]
    exact hO.give (by repeat (first | with_reducible exact Takes.nil _ | with_reducible apply Takes.cons | with_reducible exact Pick.here _ _ | with_reducible apply Pick.there)) (by repeat (first | exact Keeps.here _ | apply Keeps.skip))
  · rw [show d.flush = (10, d.step.2) from by simp [Dk.flush, hs]]
    rw [hs] at H
    clear hs hss
    generalize d.step.2 = d2 at *
    have e : errV 10 = .iface 84 (.int .i64 10) := rfl
    rw [e] at H ⊢
    clear e
    intro S W w L0 hO; simp only [List.cons_append, List.nil_append] at hO
    go_enter Try.func36, Try.ntmps36
    go_wp2_with ((go_at_call 51; (with_reducible refine Does.use hO (H) (by repeat (first | with_reducible exact Takes.nil _ | with_reducible apply Takes.cons | with_reducible exact Pick.here _ _ | with_reducible apply Pick.there)) ?_; clear hO; intro x9 w9 hO; dsimp only at hO ⊢; simp only [List.cons_append, List.nil_append] at hO; ((try clear hf); have hf := hO.facts; (try simp only [Facts_nil, Facts_cons, Var_facts, Row2_facts, RowFree_some, imm_facts, frz_facts, pure_facts, many_facts, BoxF_one, BoxF_cons, Nat.zero_add, Nat.reduceAdd, and_true, true_and, List.map_cons, List.map_nil, List.cons_append, List.nil_append] at hf)))))
    go_ret
    exact ⟨(), rfl, hO⟩
set_option maxHeartbeats 1000000 in
set_option maxRecDepth 100000 in
theorem rflush_does (p : Nat) (d : Dk) (hf1 : -1 ≤ d.fuse) (hf2 : d.fuse ≤ 9223372036854775807) (hn : 0 < d.now.length) (hn2 : d.now.length ≤ 1000) :
    Does Try.prog 37 #[.pointer (some ⟨p, 0, none⟩)] [RDiskR p d] (fun _ : Unit => (.int .i64 d.flush.1, [RDiskR p d.flush.2])) := by
  have hss := step_same d
  rcases step_code d with hs | hs
  · have H : Does Try.prog 52 #[.pointer (some ⟨p, 0, none⟩)] [RDiskR p d] (fun _ : Unit => (.int .i64 0, [RDiskR p d.step.2])) := by
      have H := rstep_does p d hf1 hf2
      rw [hs] at H
      exact H
    rw [show d.flush = (0, { d.step.2 with kept := d.step.2.now, wait := [] }) from by simp [Dk.flush, hs]]
    clear hs
    generalize d.step.2 = d2 at *
    obtain ⟨kept', now', wait', fuse', down'⟩ := d2
    dsimp only at hss
    obtain ⟨rfl, rfl⟩ := hss
    obtain ⟨iS, hiS, hzS, hsS, hbS⟩ := info_parts Try.infoStr
    intro S W w L0 hO; simp only [List.cons_append, List.nil_append] at hO
    go_enter Try.func37, Try.ntmps37
    go_wp2_with (first | (go_at_call 52; (with_reducible refine Does.use hO (H) (by repeat (first | with_reducible exact Takes.nil _ | with_reducible apply Takes.cons | with_reducible exact Pick.here _ _ | with_reducible apply Pick.there)) ?_; clear hO; intro x9 w9 hO; dsimp only at hO ⊢; simp only [List.cons_append, List.nil_append] at hO; ((try clear hf); have hf := hO.facts; (try simp only [Facts_nil, Facts_cons, Var_facts, Row2_facts, RowFree_some, imm_facts, frz_facts, pure_facts, many_facts, BoxF_one, BoxF_cons, Nat.zero_add, Nat.reduceAdd, and_true, true_and, List.map_cons, List.map_nil, List.cons_append, List.nil_append] at hf)); (obtain ⟨⟨⟨ka, kc⟩, ⟨na, nc⟩, ⟨wa, wc⟩⟩, hO⟩ := hO.ofEx; replace hO := hO.unpack; dsimp only at hO; simp only [List.cons_append, List.nil_append] at hO; ((try clear hf); have hf := hO.facts; (try simp only [Facts_nil, Facts_cons, Var_facts, Row2_facts, RowFree_some, imm_facts, frz_facts, pure_facts, many_facts, BoxF_one, BoxF_cons, Nat.zero_add, Nat.reduceAdd, and_true, true_and, List.map_cons, List.map_nil, List.cons_append, List.nil_append] at hf)); obtain ⟨ng, rfl, hfz, hnb⟩ := hO.rowAt (a := na) (n := d.now.length) (e := 9) (xs := d.now.map .string) (cap := nc) (by repeat (first | with_reducible exact Pick.here _ _ | with_reducible apply Pick.there)) hn; clear hfz hnb; have hO9 := hO.nil 9 1; clear hO; have hO := hO9; clear hO9; ((try clear hf); have hf := hO.facts; (try simp only [Facts_nil, Facts_cons, Var_facts, Row2_facts, RowFree_some, imm_facts, frz_facts, pure_facts, many_facts, BoxF_one, BoxF_cons, Nat.zero_add, Nat.reduceAdd, and_true, true_and, List.map_cons, List.map_nil, List.cons_append, List.nil_append] at hf))))) | (at_builtin; (refine wpList_append_own2 hO (by repeat (first | with_reducible exact Pick.here _ _ | with_reducible apply Pick.there)) rfl (.const (.slice none 0 0)) (.tmp 13) 41 rfl iS _ 16 Try.underlying41 hiS hzS hsS hbS rfl (by omega) rfl ng 0 d.now.length _ (d.now.map .string) rfl (by simp) (vals_src (hO.vals (xs := d.now.map .string) (e := 9) (by repeat (first | with_reducible exact Pick.here _ _ | with_reducible apply Pick.there)))) (ones_map (fun _ => rfl) _) (by unfold maxLen; omega) (by omega) ?_; clear hO; intro ka9 kc9 w9 hO; ((try clear hf); have hf := hO.facts; (try simp only [Facts_nil, Facts_cons, Var_facts, Row2_facts, RowFree_some, imm_facts, frz_facts, pure_facts, many_facts, BoxF_one, BoxF_cons, Nat.zero_add, Nat.reduceAdd, and_true, true_and, List.map_cons, List.map_nil, List.cons_append, List.nil_append] at hf)))) | (with_reducible refine wpList_alloc_own hO ?_; clear hO; intro w9 hO; ((try clear hf); have hf := hO.facts; (try simp only [Facts_nil, Facts_cons, Var_facts, Row2_facts, RowFree_some, imm_facts, frz_facts, pure_facts, many_facts, BoxF_one, BoxF_cons, Nat.zero_add, Nat.reduceAdd, and_true, true_and, List.map_cons, List.map_nil, List.cons_append, List.nil_append] at hf))) | (with_reducible apply wpList_set_own; (focus (first | (with_reducible apply Own.set; (focus (with_reducible apply hO)); (repeat (first | with_reducible exact Put.here _ _ _ | with_reducible apply Put.there)); done) | (with_reducible apply Own.setRow; (focus (with_reducible apply hO)); (focus (repeat (first | with_reducible exact Put.here _ _ _ | with_reducible apply Put.there))); first | assumption | (simp; omega) | (simp; assumption)) | ((repeat' (first | with_reducible apply hO | with_reducible apply Own.set)); all_goals (repeat (first | with_reducible exact Put.here _ _ _ | with_reducible apply Put.there)); done))); clear hO; intro w9 hO; (try dsimp only [List.set] at hO); ((try clear hf); have hf := hO.facts; (try simp only [Facts_nil, Facts_cons, Var_facts, Row2_facts, RowFree_some, imm_facts, frz_facts, pure_facts, many_facts, BoxF_one, BoxF_cons, Nat.zero_add, Nat.reduceAdd, and_true, true_and, List.map_cons, List.map_nil, List.cons_append, List.nil_append] at hf))) | (with_reducible refine wpList_drew_own hO ?_; clear hO; intro w9 hO; ((try clear hf); have hf := hO.facts; (try simp only [Facts_nil, Facts_cons, Var_facts, Row2_facts, RowFree_some, imm_facts, frz_facts, pure_facts, many_facts, BoxF_one, BoxF_cons, Nat.zero_add, Nat.reduceAdd, and_true, true_and, List.map_cons, List.map_nil, List.cons_append, List.nil_append] at hf))) | (with_reducible refine wp_alloc_own hO ?_; clear hO; intro w9 hO; ((try clear hf); have hf := hO.facts; (try simp only [Facts_nil, Facts_cons, Var_facts, Row2_facts, RowFree_some, imm_facts, frz_facts, pure_facts, many_facts, BoxF_one, BoxF_cons, Nat.zero_add, Nat.reduceAdd, and_true, true_and, List.map_cons, List.map_nil, List.cons_append, List.nil_append] at hf))) | (with_reducible apply wp_set_own; (focus (first | (with_reducible apply Own.set; (focus (with_reducible apply hO)); (repeat (first | with_reducible exact Put.here _ _ _ | with_reducible apply Put.there)); done) | (with_reducible apply Own.setRow; (focus (with_reducible apply hO)); (focus (repeat (first | with_reducible exact Put.here _ _ _ | with_reducible apply Put.there))); first | assumption | (simp; omega) | (simp; assumption)) | ((repeat' (first | with_reducible apply hO | with_reducible apply Own.set)); all_goals (repeat (first | with_reducible exact Put.here _ _ _ | with_reducible apply Put.there)); done))); clear hO; intro w9 hO; (try dsimp only [List.set] at hO); ((try clear hf); have hf := hO.facts; (try simp only [Facts_nil, Facts_cons, Var_facts, Row2_facts, RowFree_some, imm_facts, frz_facts, pure_facts, many_facts, BoxF_one, BoxF_cons, Nat.zero_add, Nat.reduceAdd, and_true, true_and, List.map_cons, List.map_nil, List.cons_append, List.nil_append] at hf))) | (with_reducible refine wp_drew_own hO ?_; clear hO; intro w9 hO; ((try clear hf); have hf := hO.facts; (try simp only [Facts_nil, Facts_cons, Var_facts, Row2_facts, RowFree_some, imm_facts, frz_facts, pure_facts, many_facts, BoxF_one, BoxF_cons, Nat.zero_add, Nat.reduceAdd, and_true, true_and, List.map_cons, List.map_nil, List.cons_append, List.nil_append] at hf))) | (with_reducible refine bodyPost_alloc_own hO ?_; clear hO; intro w9 hO; ((try clear hf); have hf := hO.facts; (try simp only [Facts_nil, Facts_cons, Var_facts, Row2_facts, RowFree_some, imm_facts, frz_facts, pure_facts, many_facts, BoxF_one, BoxF_cons, Nat.zero_add, Nat.reduceAdd, and_true, true_and, List.map_cons, List.map_nil, List.cons_append, List.nil_append] at hf))) | (with_reducible apply bodyPost_set_own; (focus (first | (with_reducible apply Own.set; (focus (with_reducible apply hO)); (repeat (first | with_reducible exact Put.here _ _ _ | with_reducible apply Put.there)); done) | (with_reducible apply Own.setRow; (focus (with_reducible apply hO)); (focus (repeat (first | with_reducible exact Put.here _ _ _ | with_reducible apply Put.there))); first | assumption | (simp; omega) | (simp; assumption)) | ((repeat' (first | with_reducible apply hO | with_reducible apply Own.set)); all_goals (repeat (first | with_reducible exact Put.here _ _ _ | with_reducible apply Put.there)); done))); clear hO; intro w9 hO; (try dsimp only [List.set] at hO); ((try clear hf); have hf := hO.facts; (try simp only [Facts_nil, Facts_cons, Var_facts, Row2_facts, RowFree_some, imm_facts, frz_facts, pure_facts, many_facts, BoxF_one, BoxF_cons, Nat.zero_add, Nat.reduceAdd, and_true, true_and, List.map_cons, List.map_nil, List.cons_append, List.nil_append] at hf))) | (with_reducible refine bodyPost_drew_own hO ?_; clear hO; intro w9 hO; ((try clear hf); have hf := hO.facts; (try simp only [Facts_nil, Facts_cons, Var_facts, Row2_facts, RowFree_some, imm_facts, frz_facts, pure_facts, many_facts, BoxF_one, BoxF_cons, Nat.zero_add, Nat.reduceAdd, and_true, true_and, List.map_cons, List.map_nil, List.cons_append, List.nil_append] at hf))))
    have hO9 := hO.nil 96 2
    clear hO
    have hO := hO9
    go_ret
    refine ⟨(), rfl, ?_⟩
    refine Own.toEx ((ka9, kc9), (some ⟨ng, 0, none⟩, nc), (none, 0)) (Own.pack ?_)
    simp only [List.length_nil, List.flatMap_nil, Nat.zero_add, List.nil_append] at hO ⊢
    exact hO.give (by repeat (first | with_reducible exact Takes.nil _ | with_reducible apply Takes.cons | with_reducible exact Pick.here _ _ | with_reducible apply Pick.there)) (by repeat (first | exact Keeps.here _ | apply Keeps.skip))
  · have H : Does Try.prog 52 #[.pointer (some ⟨p, 0, none⟩)] [RDiskR p d] (fun _ : Unit => (.int .i64 10, [RDiskR p d.step.2])) := by
      have H := rstep_does p d hf1 hf2
      rw [hs] at H
      exact H
    rw [show d.flush = (10, d.step.2) from by simp [Dk.flush, hs]]
    clear hs hss
    generalize d.step.2 = d2 at *
    intro S W w L0 hO; simp only [List.cons_append, List.nil_append] at hO
    go_enter Try.func37, Try.ntmps37
    go_wp2_with ((go_at_call 52; (with_reducible refine Does.use hO (H) (by repeat (first | with_reducible exact Takes.nil _ | with_reducible apply Takes.cons | with_reducible exact Pick.here _ _ | with_reducible apply Pick.there)) ?_; clear hO; intro x9 w9 hO; dsimp only at hO ⊢; simp only [List.cons_append, List.nil_append] at hO; ((try clear hf); have hf := hO.facts; (try simp only [Facts_nil, Facts_cons, Var_facts, Row2_facts, RowFree_some, imm_facts, frz_facts, pure_facts, many_facts, BoxF_one, BoxF_cons, Nat.zero_add, Nat.reduceAdd, and_true, true_and, List.map_cons, List.map_nil, List.cons_append, List.nil_append] at hf)))))
    go_ret
    exact ⟨(), rfl, hO⟩
end Go.Proofs.Ytmjdgcgmlgbfjaa
