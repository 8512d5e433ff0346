/- Texts Dk3, Dk4, Sl, SlC, Dk5, Dk6, Dk7 of this claim, laid together. -/
import Derived.Test.YtpdnlgopbnkdhaaDoorGLogSaysProof6
import Derived.Test.YtpdnlgopbnkdhaaDoorGLogSaysProof2
import Derived.Lib.AppendZerosOnto
import Derived.Lib.Overlaps
import Derived.Test.YtpdnlgopbnkdhaaDoorGLogSaysProof4
import Derived.Deep.Cut
import Derived.Laws.Externs
set_option linter.unusedVariables false
set_option linter.unusedSimpArgs false
namespace Go.Proofs.YtpdnlgopbnkdhaaDoor
open Go.RowKit
def Dk.writeR (d : Dk) (n : Int) (s : ByteArray) : Nat × Dk := if n < 0 ∨ d.now.length ≤ n ∨ 96 < s.size then (1, d) else if d.step.1 = 0 then (0, d.step.2.write n.toNat s) else (10, d.step.2)
theorem step_code (d : Dk) : d.step.1 = 0 ∨ d.step.1 = 10 := by
  unfold Dk.step; split
  · exact .inr rfl
  · split
    · exact .inr rfl
    · exact .inl rfl
set_option maxHeartbeats 1000000 in
set_option maxRecDepth 100000 in
theorem write_does (p : Nat) (d : Dk) (n : Int) (s : ByteArray) (hf1 : -1 ≤ d.fuse) (hf2 : d.fuse ≤ 9223372036854775807) (hw : d.wait.length ≤ 1000000) :
    Does Tryd.prog 13 #[.pointer (some ⟨p, 0, none⟩), .int .i64 n, .string s] [DiskR p d] (fun _ : Unit => (errV (d.writeR n s).1, [DiskR p (d.writeR n s).2])) := by
  by_cases hb : n < 0 ∨ d.now.length ≤ n ∨ 96 < s.size
  · rw [show d.writeR n s = (1, d) from by simp [Dk.writeR, hb]]
    intro S W w L0 hO; simp only [List.cons_append, List.nil_append] at hO
    go_enter Tryd.func13, Tryd.ntmps13
    obtain ⟨⟨⟨ka, kc⟩, ⟨na, nc⟩, ⟨wa, wc⟩⟩, hf⟩ := hO.facts.1; simp only [FX, Nat.zero_add, Nat.reduceAdd, and_true, true_and, List.map_cons, List.map_nil, List.cons_append, List.nil_append] at hf
    go_wp2_with fail
    all_goals (first | (exfalso; omega) | (go_ret; exact ⟨(), rfl, hO⟩))
  · obtain ⟨i, rfl⟩ := Int.eq_ofNat_of_zero_le (show 0 ≤ n by omega)
    rcases step_code d with hs | hs
    · have := write_ok p d d.step.2 i s hf1 hf2 (by omega) (by omega) (by rw [← hs]) hw
      rw [show d.writeR (i : Int) s = (0, d.step.2.write i s) from by unfold Dk.writeR; rw [if_neg hb, if_pos hs]; simp]
      exact this
    · have H := step_does p d hf1 hf2
      rw [hs] at H
      rw [show d.writeR (i : Int) s = (10, d.step.2) from by unfold Dk.writeR; rw [if_neg hb, if_neg (by omega)]]
      clear hs
      generalize d.step.2 = d2 at *
      have e : errV 10 = .iface 97 (.int .i64 10) := rfl
      rw [e] at H ⊢
      clear e
      intro S W w L0 hO; simp only [List.cons_append, List.nil_append] at hO
      go_enter Tryd.func13, Tryd.ntmps13
      obtain ⟨⟨⟨ka, kc⟩, ⟨na, nc⟩, ⟨wa, wc⟩⟩, hf⟩ := hO.facts.1; simp only [FX, Nat.zero_add, Nat.reduceAdd, and_true, true_and, List.map_cons, List.map_nil, List.cons_append, List.nil_append] at hf
      go_wp2_with ((go_at_call 60; (with_reducible refine Does.use hO (H) (by repeat (first | with_reducible exact Takes.nil _ | with_reducible apply Takes.cons | with_reducible exact Pick.here _ _ | with_reducible apply Pick.there)) ?_; clear hO; intro x9 w9 hO; dsimp only at hO ⊢; simp only [List.cons_append, List.nil_append] at hO; ((try clear hf); have hf := hO.facts; (try simp only [FX, Nat.zero_add, Nat.reduceAdd, and_true, true_and, List.map_cons, List.map_nil, List.cons_append, List.nil_append] at hf)))))
      all_goals (first | (exfalso; omega) | (go_ret; exact ⟨(), rfl, hO⟩))
def Dk.flush (d : Dk) : Nat × Dk := if d.step.1 = 0 then (0, { d.step.2 with kept := d.step.2.now, wait := [] }) else (10, d.step.2)
theorem step_same (d : Dk) : d.step.2.now = d.now ∧ d.step.2.kept = d.kept := by
  unfold Dk.step; split
  · exact ⟨rfl, rfl⟩
  · split <;> exact ⟨rfl, rfl⟩
theorem Tryd.sizeStr : (Tryd.prog.info? 9).map (·.size) = some 1 := by kernel_rfl
theorem ones_map {α : Type} {f : α → Value} (h : ∀ x, (f x).oneCell' = true) (l : List α) : ∀ u ∈ l.map f, u.oneCell' = true := fun u hu => by
  obtain ⟨x, _, rfl⟩ := List.mem_map.1 hu; exact h x
theorem splice_all {α : Type} (xs cs : List α) (h : cs.length = xs.length) : splice xs 0 cs = cs := by
  unfold splice; rw [List.drop_of_length_le (by omega)]; simp
set_option maxHeartbeats 1000000 in
set_option maxRecDepth 100000 in
theorem flush_does (p : Nat) (d : Dk) (hf1 : -1 ≤ d.fuse) (hf2 : d.fuse ≤ 9223372036854775807) (hn : 0 < d.now.length) (hk : d.kept.length = d.now.length) :
    Does Tryd.prog 72 #[.pointer (some ⟨p, 0, none⟩)] [DiskR p d] (fun _ : Unit => (errV d.flush.1, [DiskR p d.flush.2])) := by
  have H := step_does p d hf1 hf2
  have hss := step_same d
  rcases step_code d with hs | hs
  · rw [show d.flush = (0, { d.step.2 with kept := d.step.2.now, wait := [] }) from by simp [Dk.flush, hs]]
    rw [hs] at H
    clear hs
    generalize d.step.2 = d2 at *
    obtain ⟨kept', now', wait', fuse', down'⟩ := d2
    dsimp only at hss
    obtain ⟨rfl, rfl⟩ := hss
    have e : errV 0 = .nilIface := rfl
    rw [e] at H ⊢
    clear e
    intro S W w L0 hO; simp only [List.cons_append, List.nil_append] at hO
    go_enter Tryd.func72, Tryd.ntmps72
    go_wp2_with ((go_at_call 60; (with_reducible refine Does.use hO (H) (by repeat (first | with_reducible exact Takes.nil _ | with_reducible apply Takes.cons | with_reducible exact Pick.here _ _ | with_reducible apply Pick.there)) ?_; clear hO; intro x9 w9 hO; dsimp only at hO ⊢; simp only [List.cons_append, List.nil_append] at hO; ((try clear hf); have hf := hO.facts; (try simp only [FX, Nat.zero_add, Nat.reduceAdd, and_true, true_and, List.map_cons, List.map_nil, List.cons_append, List.nil_append] at hf)); obtain ⟨⟨⟨ka, kc⟩, ⟨na, nc⟩, ⟨wa, wc⟩⟩, hO⟩ := hO.ofEx; replace hO := hO.unpack; dsimp only at hO; simp only [List.cons_append, List.nil_append] at hO; ((try clear hf); have hf := hO.facts; (try simp only [FX, Nat.zero_add, Nat.reduceAdd, and_true, true_and, List.map_cons, List.map_nil, List.cons_append, List.nil_append] at hf)))))
    obtain ⟨ng, rfl, hfz, hnb⟩ := hO.rowAt (a := na) (n := d.now.length) (e := 9) (xs := d.now.map .string) (cap := nc) (by repeat (first | with_reducible exact Pick.here _ _ | with_reducible apply Pick.there)) hn
    obtain ⟨kg, rfl, hfz, hnb⟩ := hO.rowAt (a := ka) (n := d.kept.length) (e := 9) (xs := d.kept.map .string) (cap := kc) (by repeat (first | with_reducible exact Pick.here _ _ | with_reducible apply Pick.there)) (by omega)
    clear hfz hnb
    rw [hk] at hO
    ((try clear hf); have hf := hO.facts; (try simp only [FX, Nat.zero_add, Nat.reduceAdd, and_true, true_and, List.map_cons, List.map_nil, List.cons_append, List.nil_append] at hf))
    (refine wp_region_run (fun _ => True) (fun _ _ _ _ => trivial) trivial ((0, 0) :: (0, 1) :: (0, 2) :: (1, 3) :: (0, 4) :: (0, 5) :: (0, 6) :: (1, 7) :: (5, 8) :: []) (by kernel_rfl) (by kernel_rfl) rfl (fun _ _ d _ _ h => by cases d <;> exact h) ?_; intro w9 hx9; replace hO := hO.ext hx9; clear hx9; ((try clear hf); have hf := hO.facts; (try simp only [FX, Nat.zero_add, Nat.reduceAdd, and_true, true_and, List.map_cons, List.map_nil, List.cons_append, List.nil_append] at hf)); (repeat (first | (apply inRun_p _ rfl rfl rfl; focus (intro w8 K8 hK8; (repeat (first | go_skip | go_guarded | go_step)); exact hK8)) | (apply inRun_l _ rfl rfl rfl; focus (intro w8 hx8 K8 hK8; have hO := hO.ext hx8; ((try clear hf); have hf := hO.facts; (try simp only [FX, Nat.zero_add, Nat.reduceAdd, and_true, true_and, List.map_cons, List.map_nil, List.cons_append, List.nil_append] at hf)); skip; (repeat (first | go_skip | go_guarded | go_step)); exact hK8)) | (apply inRun_q _ rfl; (focus (intro w8 hx8 K8 hK8; have hO := hO.ext hx8; ((try clear hf); have hf := hO.facts; (try simp only [FX, Nat.zero_add, Nat.reduceAdd, and_true, true_and, List.map_cons, List.map_nil, List.cons_append, List.nil_append] at hf)); (repeat (first | go_skip | go_guarded | go_step | fail)); (first | exact (by repeat (first | exact Ext.refl _ | assumption | refine Ext.of_drew ?_ | refine Ext.alloc ?_ _ | refine Ext.drew ?_ | refine Ext.trans ?_ (by assumption))) | exact hK8 _ (by repeat (first | exact Ext.refl _ | assumption | refine Ext.of_drew ?_ | refine Ext.alloc ?_ _ | refine Ext.drew ?_ | refine Ext.trans ?_ (by assumption)))))); (focus (exact rfl)); intro w8 hx8; replace hO := hO.ext hx8; clear hx8; ((try clear hf); have hf := hO.facts; (try simp only [FX, Nat.zero_add, Nat.reduceAdd, and_true, true_and, List.map_cons, List.map_nil, List.cons_append, List.nil_append] at hf))))))
    refine inRun_d rfl ?_; intro K8 hK8
    refine wpList_copy_own4 hO (g := kg) (e := 9) (n := d.now.length) (xs := (d.kept.map .string)) (by repeat (first | with_reducible exact Pick.here _ _ | with_reducible apply Pick.there)) rfl (.tmp 11) (.tmp 15) 22 22 rfl Tryd.underlying22 Tryd.sizeStr 0 d.now.length _ ⟨ng, 0, none⟩ d.now.length _ rfl rfl (d.now.map .string) (by simp; try omega) (fun j v hj => by rw [add_off]; exact vals_src (hO.vals (xs := (d.now.map .string)) (e := 9) (by repeat (first | with_reducible exact Pick.here _ _ | with_reducible apply Pick.there))) j v hj) (by simp; try omega) (ones_map (fun _ => rfl) _) ?_; clear hO; intro w9 hO; rw [splice_all _ _ (by simp; try omega)] at hO; ((try clear hf); have hf := hO.facts; (try simp only [FX, Nat.zero_add, Nat.reduceAdd, and_true, true_and, List.map_cons, List.map_nil, List.cons_append, List.nil_append] at hf))
    go_step; refine hK8 _ _ trivial ?_; clear hK8 K8
    refine inRun_nil ?_
    go_wp2_with (first | ((first | with_reducible refine wpList_alloc_own hO ?_ | with_reducible refine wpList_drew_own hO ?_ | with_reducible refine wp_alloc_own hO ?_ | with_reducible refine wp_drew_own hO ?_ | with_reducible refine bodyPost_alloc_own hO ?_ | with_reducible refine bodyPost_drew_own hO ?_ | ((first | with_reducible apply wpList_set_own | with_reducible apply wp_set_own | with_reducible apply bodyPost_set_own); (focus (first | (with_reducible apply Own.set; (focus (with_reducible apply hO)); (repeat (first | with_reducible exact Put.here _ _ _ | with_reducible apply Put.there)); done) | (with_reducible apply Own.setRow; (focus (with_reducible apply hO)); (focus (repeat (first | with_reducible exact Put.here _ _ _ | with_reducible apply Put.there))); first | assumption | (simp; omega) | (simp; assumption)) | ((repeat' (first | with_reducible apply hO | with_reducible apply Own.set)); all_goals (repeat (first | with_reducible exact Put.here _ _ _ | with_reducible apply Put.there)); done))))); clear hO; intro w9 hO; (try dsimp only [List.set] at hO); ((try clear hf); have hf := hO.facts; (try simp only [FX, Nat.zero_add, Nat.reduceAdd, and_true, true_and, List.map_cons, List.map_nil, List.cons_append, List.nil_append] at hf))))
    obtain hO' := hO.nil 106 2
    clear hO; replace hO := hO'
    go_ret
    refine ⟨(), rfl, ?_⟩
    refine Own.toEx ((some ⟨kg, 0, none⟩, kc), (some ⟨ng, 0, none⟩, nc), (none, 0)) (Own.pack ?_)
    simp only [List.length_nil, List.flatMap_nil]
    exact hO.give (by repeat (first | with_reducible exact Takes.nil _ | with_reducible apply Takes.cons | with_reducible exact Pick.here _ _ | with_reducible apply Pick.there)) (by repeat (first | exact Keeps.here _ | apply Keeps.skip))
  · rw [show d.flush = (10, d.step.2) from by simp [Dk.flush, hs]]
    rw [hs] at H
    clear hs hss
    generalize d.step.2 = d2 at *
    have e : errV 10 = .iface 97 (.int .i64 10) := rfl
    rw [e] at H ⊢
    clear e
    intro S W w L0 hO; simp only [List.cons_append, List.nil_append] at hO
    go_enter Tryd.func72, Tryd.ntmps72
    go_wp2_with ((go_at_call 60; (with_reducible refine Does.use hO (H) (by repeat (first | with_reducible exact Takes.nil _ | with_reducible apply Takes.cons | with_reducible exact Pick.here _ _ | with_reducible apply Pick.there)) ?_; clear hO; intro x9 w9 hO; dsimp only at hO ⊢; simp only [List.cons_append, List.nil_append] at hO; ((try clear hf); have hf := hO.facts; (try simp only [FX, Nat.zero_add, Nat.reduceAdd, and_true, true_and, List.map_cons, List.map_nil, List.cons_append, List.nil_append] at hf)))))
    go_ret
    exact ⟨(), rfl, hO⟩
end Go.Proofs.YtpdnlgopbnkdhaaDoor
namespace Go.Proofs.YtpdnlgopbnkdhaaDoor
open Go.RowKit
/-- What is kept once the first j of what waited were looked at. -/
def keptAfter (bit : Nat → Bool) (wait : List (Nat × ByteArray)) (kept : List ByteArray) : Nat → List ByteArray
  | 0 => kept
  | j + 1 => match wait[j]? with
    | some (a, s) => if bit j then (keptAfter bit wait kept j).set a s else keptAfter bit wait kept j
    | none => keptAfter bit wait kept j
theorem keptAfter_length (bit : Nat → Bool) (wait : List (Nat × ByteArray)) (kept : List ByteArray) : ∀ j, (keptAfter bit wait kept j).length = kept.length
  | 0 => rfl
  | j + 1 => by
    unfold keptAfter
    split
    · split
      · rw [List.length_set]; exact keptAfter_length bit wait kept j
      · exact keptAfter_length bit wait kept j
    · exact keptAfter_length bit wait kept j
def bitOf (K : Int) (i : Nat) : Bool := bits .and .u64 (K / 2 ^ (i % 64)) 1 == 1
def Dk.restart (d : Dk) (K : Int) : Dk := ⟨keptAfter (bitOf K) d.wait d.kept d.wait.length, keptAfter (bitOf K) d.wait d.kept d.wait.length, [], -1, false⟩
set_option maxHeartbeats 1000000 in
set_option maxRecDepth 100000 in
theorem restart_does (p : Nat) (d : Dk) (K : Int) (hK0 : 0 ≤ K) (hK1 : K < 18446744073709551616) (hn : 0 < d.now.length) (hk : d.kept.length = d.now.length) (hwl : d.wait.length ≤ 1000000) (hat : ∀ t ∈ d.wait, t.1 < d.now.length) :
    Does Tryd.prog 41 #[.pointer (some ⟨p, 0, none⟩), .int .u64 K] [DiskR p d] (fun _ : Unit => (.tuple #[], [DiskR p (d.restart K)])) := by
  obtain ⟨kept, now, wait, fuse, down⟩ := d
  dsimp only at *
  have HA := Lib.hid hat
  clear hat
  intro S W w L0 hO; simp only [List.cons_append, List.nil_append] at hO
  go_enter Tryd.func41, Tryd.ntmps41
  obtain ⟨⟨⟨ka, kc⟩, ⟨na, nc⟩, ⟨wa, wc⟩⟩, hO⟩ := hO.ofEx; replace hO := hO.unpack; dsimp only at hO; simp only [List.cons_append, List.nil_append] at hO; ((try clear hf); have hf := hO.facts; (try simp only [FX, Nat.zero_add, Nat.reduceAdd, and_true, true_and, List.map_cons, List.map_nil, List.cons_append, List.nil_append] at hf))
  go_wp2_with (first | ((first | with_reducible refine wpList_alloc_own hO ?_ | with_reducible refine wpList_drew_own hO ?_ | with_reducible refine wp_alloc_own hO ?_ | with_reducible refine wp_drew_own hO ?_ | with_reducible refine bodyPost_alloc_own hO ?_ | with_reducible refine bodyPost_drew_own hO ?_ | ((first | with_reducible apply wpList_set_own | with_reducible apply wp_set_own | with_reducible apply bodyPost_set_own); (focus (first | (with_reducible apply Own.set; (focus (with_reducible apply hO)); (repeat (first | with_reducible exact Put.here _ _ _ | with_reducible apply Put.there)); done) | (with_reducible apply Own.setRow; (focus (with_reducible apply hO)); (focus (repeat (first | with_reducible exact Put.here _ _ _ | with_reducible apply Put.there))); first | assumption | (simp; omega) | (simp; assumption)) | ((repeat' (first | with_reducible apply hO | with_reducible apply Own.set)); all_goals (repeat (first | with_reducible exact Put.here _ _ _ | with_reducible apply Put.there)); done))))); clear hO; intro w9 hO; (try dsimp only [List.set] at hO); ((try clear hf); have hf := hO.facts; (try simp only [FX, Nat.zero_add, Nat.reduceAdd, and_true, true_and, List.map_cons, List.map_nil, List.cons_append, List.nil_append] at hf))))
  go_loopw [4, 5, 11] (fun v4 v5 i wr => ∃ j : Nat, j ≤ wait.length ∧ i = .int .i64 j ∧ Own S W wr (Var p [.slice ka kept.length kc, .slice na now.length nc, .slice wa wait.length wc, .int .i64 fuse, .bool down] 103 ::
      Row2 9 1 ka kept.length kc ((keptAfter (bitOf K) wait kept j).map .string) :: Row2 9 1 na now.length nc (now.map .string) :: Row2 106 2 wa wait.length wc (wait.flatMap turnC) :: L0)) (fun _ _ i _ => wait.length - (intOf i).toNat)
  case atStart => exact ⟨0, by omega, rfl, hO⟩
  case round =>
    clear hO hf
    obtain ⟨j, hj, rfl, hO⟩ := hrel
    rename World => w1
    by_cases hlt : j < wait.length
    · obtain ⟨wg, rfl, hfz, hnb⟩ := hO.rowAt (a := wa) (n := wait.length) (e := 106) (xs := wait.flatMap turnC) (cap := wc) (by repeat (first | with_reducible exact Pick.here _ _ | with_reducible apply Pick.there)) (by omega)
      clear hfz hnb
      obtain ⟨at', s', hwj⟩ : ∃ a s, wait[j] = (a, s) := ⟨_, _, rfl⟩
      have hca := hO.cellAt (g := wg) (e := 106) (xs := wait.flatMap turnC) (i := j * 2) (v := .int .i64 at') (by repeat (first | with_reducible exact Pick.here _ _ | with_reducible apply Pick.there)) (flat_at (k := 2) (fun _ => rfl) hlt 0 _ (by rw [hwj]; rfl))
      have hcs := hO.cellAt (g := wg) (e := 106) (xs := wait.flatMap turnC) (i := j * 2 + 1) (v := .string s') (by repeat (first | with_reducible exact Pick.here _ _ | with_reducible apply Pick.there)) (flat_at (k := 2) (fun _ => rfl) hlt 1 _ (by rw [hwj]; rfl))
      have hal : at' < now.length := by have := HA.out _ (List.getElem_mem hlt); rw [hwj] at this; exact this
      ((try clear hf); have hf := hO.facts; (try simp only [FX, Nat.zero_add, Nat.reduceAdd, and_true, true_and, List.map_cons, List.map_nil, List.cons_append, List.nil_append] at hf))
      have hka : (keptAfter (bitOf K) wait kept j).length = kept.length := keptAfter_length _ _ _ j
      have hsuc : keptAfter (bitOf K) wait kept (j + 1) = if bitOf K j then (keptAfter (bitOf K) wait kept j).set at' s' else keptAfter (bitOf K) wait kept j := by
        conv => lhs; unfold keptAfter
        rw [List.getElem?_eq_getElem hlt, hwj]
      have HS := Lib.hid hsuc
      clear hsuc hwj
      cases hbit : (bits .and .u64 (K / 2 ^ (j % 64)) 1 == 1) with
      | true =>
        obtain ⟨kg, rfl, hfz, hnb⟩ := hO.rowAt (a := ka) (n := kept.length) (e := 9) (xs := (keptAfter (bitOf K) wait kept j).map .string) (cap := kc) (by repeat (first | with_reducible exact Pick.here _ _ | with_reducible apply Pick.there)) (by omega)
        clear hfz hnb
        ((try clear hf); have hf := hO.facts; (try simp only [FX, Nat.zero_add, Nat.reduceAdd, and_true, true_and, List.map_cons, List.map_nil, List.cons_append, List.nil_append] at hf))
        go_wp2_with (first | ((first | with_reducible refine wpList_alloc_own hO ?_ | with_reducible refine wpList_drew_own hO ?_ | with_reducible refine wp_alloc_own hO ?_ | with_reducible refine wp_drew_own hO ?_ | with_reducible refine bodyPost_alloc_own hO ?_ | with_reducible refine bodyPost_drew_own hO ?_ | ((first | with_reducible apply wpList_set_own | with_reducible apply wp_set_own | with_reducible apply bodyPost_set_own); (focus (first | (with_reducible apply Own.set; (focus (with_reducible apply hO)); (repeat (first | with_reducible exact Put.here _ _ _ | with_reducible apply Put.there)); done) | (with_reducible apply Own.setRow; (focus (with_reducible apply hO)); (focus (repeat (first | with_reducible exact Put.here _ _ _ | with_reducible apply Put.there))); first | assumption | (simp; omega) | (simp; assumption)) | ((repeat' (first | with_reducible apply hO | with_reducible apply Own.set)); all_goals (repeat (first | with_reducible exact Put.here _ _ _ | with_reducible apply Put.there)); done))))); clear hO; intro w9 hO; (try dsimp only [List.set] at hO); ((try clear hf); have hf := hO.facts; (try simp only [FX, Nat.zero_add, Nat.reduceAdd, and_true, true_and, List.map_cons, List.map_nil, List.cons_append, List.nil_append] at hf))))
        have hka2 : at' < ((keptAfter (bitOf K) wait kept j).map Value.string).length := by rw [List.length_map]; omega
        (refine wp_region_run (fun _ => True) (fun _ _ _ _ => trivial) trivial ((0, 0) :: (0, 1) :: (0, 2) :: (1, 3) :: (0, 4) :: (1, 5) :: (0, 6) :: (1, 7) :: (0, 8) :: (5, 9) :: []) (by kernel_rfl) (by kernel_rfl) rfl (fun _ _ d _ _ h => by cases d <;> exact h) ?_; intro w9 hx9; replace hO := hO.ext hx9; clear hx9; ((try clear hf); have hf := hO.facts; (try simp only [FX, Nat.zero_add, Nat.reduceAdd, and_true, true_and, List.map_cons, List.map_nil, List.cons_append, List.nil_append] at hf)); (repeat (first | (apply inRun_p _ rfl rfl rfl; focus (intro w8 K8 hK8; (repeat (first | go_skip | go_guarded | go_step)); exact hK8)) | (apply inRun_l _ rfl rfl rfl; focus (intro w8 hx8 K8 hK8; have hO := hO.ext hx8; ((try clear hf); have hf := hO.facts; (try simp only [FX, Nat.zero_add, Nat.reduceAdd, and_true, true_and, List.map_cons, List.map_nil, List.cons_append, List.nil_append] at hf)); skip; (repeat (first | go_skip | go_guarded | go_step)); exact hK8)) | (apply inRun_q _ rfl; (focus (intro w8 hx8 K8 hK8; have hO := hO.ext hx8; ((try clear hf); have hf := hO.facts; (try simp only [FX, Nat.zero_add, Nat.reduceAdd, and_true, true_and, List.map_cons, List.map_nil, List.cons_append, List.nil_append] at hf)); (repeat (first | go_skip | go_guarded | go_step | fail)); (first | exact (by repeat (first | exact Ext.refl _ | assumption | refine Ext.of_drew ?_ | refine Ext.alloc ?_ _ | refine Ext.drew ?_ | refine Ext.trans ?_ (by assumption))) | exact hK8 _ (by repeat (first | exact Ext.refl _ | assumption | refine Ext.of_drew ?_ | refine Ext.alloc ?_ _ | refine Ext.drew ?_ | refine Ext.trans ?_ (by assumption)))))); (focus (exact rfl)); intro w8 hx8; replace hO := hO.ext hx8; clear hx8; ((try clear hf); have hf := hO.facts; (try simp only [FX, Nat.zero_add, Nat.reduceAdd, and_true, true_and, List.map_cons, List.map_nil, List.cons_append, List.nil_append] at hf))))))
        have hck := hO.cellAt (g := kg) (e := 9) (xs := (keptAfter (bitOf K) wait kept j).map .string) (i := at') (v := .string ((keptAfter (bitOf K) wait kept j)[at']'(by omega))) (by repeat (first | with_reducible exact Pick.here _ _ | with_reducible apply Pick.there)) (by simp)
        (refine inRun_d rfl ?_; intro K8 hK8; (repeat (first | go_skip | go_guarded | go_step)); refine hK8 _ _ trivial ?_; clear hK8 K8; with_reducible apply inRun_set_own; (focus (first | (with_reducible apply Own.set; (focus (with_reducible apply hO)); (repeat (first | with_reducible exact Put.here _ _ _ | with_reducible apply Put.there)); done) | (with_reducible apply Own.setRow; (focus (with_reducible apply hO)); (focus (repeat (first | with_reducible exact Put.here _ _ _ | with_reducible apply Put.there))); first | assumption | (simp; omega) | (simp; assumption)) | ((repeat' (first | with_reducible apply hO | with_reducible apply Own.set)); all_goals (repeat (first | with_reducible exact Put.here _ _ _ | with_reducible apply Put.there)); done))); clear hO; intro w9 hO; (try dsimp only [List.set] at hO); ((try clear hf); have hf := hO.facts; (try simp only [FX, Nat.zero_add, Nat.reduceAdd, and_true, true_and, List.map_cons, List.map_nil, List.cons_append, List.nil_append] at hf)))
        refine inRun_nil ?_
        go_wp2_with (first | ((first | with_reducible refine wpList_alloc_own hO ?_ | with_reducible refine wpList_drew_own hO ?_ | with_reducible refine wp_alloc_own hO ?_ | with_reducible refine wp_drew_own hO ?_ | with_reducible refine bodyPost_alloc_own hO ?_ | with_reducible refine bodyPost_drew_own hO ?_ | ((first | with_reducible apply wpList_set_own | with_reducible apply wp_set_own | with_reducible apply bodyPost_set_own); (focus (first | (with_reducible apply Own.set; (focus (with_reducible apply hO)); (repeat (first | with_reducible exact Put.here _ _ _ | with_reducible apply Put.there)); done) | (with_reducible apply Own.setRow; (focus (with_reducible apply hO)); (focus (repeat (first | with_reducible exact Put.here _ _ _ | with_reducible apply Put.there))); first | assumption | (simp; omega) | (simp; assumption)) | ((repeat' (first | with_reducible apply hO | with_reducible apply Own.set)); all_goals (repeat (first | with_reducible exact Put.here _ _ _ | with_reducible apply Put.there)); done))))); clear hO; intro w9 hO; (try dsimp only [List.set] at hO); ((try clear hf); have hf := hO.facts; (try simp only [FX, Nat.zero_add, Nat.reduceAdd, and_true, true_and, List.map_cons, List.map_nil, List.cons_append, List.nil_append] at hf))))
        refine ⟨⟨j + 1, by omega, by go_num, ?_⟩, by simp [intOf]; omega⟩
        rw [HS.out, show bitOf K j = true from hbit, if_pos rfl, List.map_set]
        exact hO.cut (by repeat (first | with_reducible apply Sub.cons | with_reducible exact Pick.here _ _ | with_reducible apply Pick.there | with_reducible apply Sub.base | with_reducible exact Keeps.here _ | with_reducible apply Keeps.skip))
      | false =>
        go_wp2_with (first | ((first | with_reducible refine wpList_alloc_own hO ?_ | with_reducible refine wpList_drew_own hO ?_ | with_reducible refine wp_alloc_own hO ?_ | with_reducible refine wp_drew_own hO ?_ | with_reducible refine bodyPost_alloc_own hO ?_ | with_reducible refine bodyPost_drew_own hO ?_ | ((first | with_reducible apply wpList_set_own | with_reducible apply wp_set_own | with_reducible apply bodyPost_set_own); (focus (first | (with_reducible apply Own.set; (focus (with_reducible apply hO)); (repeat (first | with_reducible exact Put.here _ _ _ | with_reducible apply Put.there)); done) | (with_reducible apply Own.setRow; (focus (with_reducible apply hO)); (focus (repeat (first | with_reducible exact Put.here _ _ _ | with_reducible apply Put.there))); first | assumption | (simp; omega) | (simp; assumption)) | ((repeat' (first | with_reducible apply hO | with_reducible apply Own.set)); all_goals (repeat (first | with_reducible exact Put.here _ _ _ | with_reducible apply Put.there)); done))))); clear hO; intro w9 hO; (try dsimp only [List.set] at hO); ((try clear hf); have hf := hO.facts; (try simp only [FX, Nat.zero_add, Nat.reduceAdd, and_true, true_and, List.map_cons, List.map_nil, List.cons_append, List.nil_append] at hf))))
        refine ⟨⟨j + 1, by omega, by go_num, ?_⟩, by simp [intOf]; omega⟩
        rw [HS.out, show bitOf K j = false from hbit, if_neg (by simp)]
        exact hO.cut (by repeat (first | with_reducible apply Sub.cons | with_reducible exact Pick.here _ _ | with_reducible apply Pick.there | with_reducible apply Sub.base | with_reducible exact Keeps.here _ | with_reducible apply Keeps.skip))
    · obtain rfl : j = wait.length := by omega
      obtain ⟨ng, rfl, hfz, hnb⟩ := hO.rowAt (a := na) (n := now.length) (e := 9) (xs := now.map .string) (cap := nc) (by repeat (first | with_reducible exact Pick.here _ _ | with_reducible apply Pick.there)) hn
      obtain ⟨kg, rfl, hfz, hnb⟩ := hO.rowAt (a := ka) (n := kept.length) (e := 9) (xs := (keptAfter (bitOf K) wait kept wait.length).map .string) (cap := kc) (by repeat (first | with_reducible exact Pick.here _ _ | with_reducible apply Pick.there)) (by omega)
      have hka : (keptAfter (bitOf K) wait kept wait.length).length = kept.length := keptAfter_length _ _ _ _
      clear hfz hnb
      ((try clear hf); have hf := hO.facts; (try simp only [FX, Nat.zero_add, Nat.reduceAdd, and_true, true_and, List.map_cons, List.map_nil, List.cons_append, List.nil_append] at hf))
      go_wp2_with (first | ((first | with_reducible refine wpList_alloc_own hO ?_ | with_reducible refine wpList_drew_own hO ?_ | with_reducible refine wp_alloc_own hO ?_ | with_reducible refine wp_drew_own hO ?_ | with_reducible refine bodyPost_alloc_own hO ?_ | with_reducible refine bodyPost_drew_own hO ?_ | ((first | with_reducible apply wpList_set_own | with_reducible apply wp_set_own | with_reducible apply bodyPost_set_own); (focus (first | (with_reducible apply Own.set; (focus (with_reducible apply hO)); (repeat (first | with_reducible exact Put.here _ _ _ | with_reducible apply Put.there)); done) | (with_reducible apply Own.setRow; (focus (with_reducible apply hO)); (focus (repeat (first | with_reducible exact Put.here _ _ _ | with_reducible apply Put.there))); first | assumption | (simp; omega) | (simp; assumption)) | ((repeat' (first | with_reducible apply hO | with_reducible apply Own.set)); all_goals (repeat (first | with_reducible exact Put.here _ _ _ | with_reducible apply Put.there)); done))))); clear hO; intro w9 hO; (try dsimp only [List.set] at hO); ((try clear hf); have hf := hO.facts; (try simp only [FX, Nat.zero_add, Nat.reduceAdd, and_true, true_and, List.map_cons, List.map_nil, List.cons_append, List.nil_append] at hf))))
      (refine wp_region_run (fun _ => True) (fun _ _ _ _ => trivial) trivial ((0, 0) :: (0, 1) :: (0, 2) :: (1, 3) :: (0, 4) :: (0, 5) :: (0, 6) :: (1, 7) :: (5, 8) :: []) (by kernel_rfl) (by kernel_rfl) rfl (fun _ _ d _ _ h => by cases d <;> exact h) ?_; intro w9 hx9; replace hO := hO.ext hx9; clear hx9; ((try clear hf); have hf := hO.facts; (try simp only [FX, Nat.zero_add, Nat.reduceAdd, and_true, true_and, List.map_cons, List.map_nil, List.cons_append, List.nil_append] at hf)); (repeat (first | (apply inRun_p _ rfl rfl rfl; focus (intro w8 K8 hK8; (repeat (first | go_skip | go_guarded | go_step)); exact hK8)) | (apply inRun_l _ rfl rfl rfl; focus (intro w8 hx8 K8 hK8; have hO := hO.ext hx8; ((try clear hf); have hf := hO.facts; (try simp only [FX, Nat.zero_add, Nat.reduceAdd, and_true, true_and, List.map_cons, List.map_nil, List.cons_append, List.nil_append] at hf)); skip; (repeat (first | go_skip | go_guarded | go_step)); exact hK8)) | (apply inRun_q _ rfl; (focus (intro w8 hx8 K8 hK8; have hO := hO.ext hx8; ((try clear hf); have hf := hO.facts; (try simp only [FX, Nat.zero_add, Nat.reduceAdd, and_true, true_and, List.map_cons, List.map_nil, List.cons_append, List.nil_append] at hf)); (repeat (first | go_skip | go_guarded | go_step | fail)); (first | exact (by repeat (first | exact Ext.refl _ | assumption | refine Ext.of_drew ?_ | refine Ext.alloc ?_ _ | refine Ext.drew ?_ | refine Ext.trans ?_ (by assumption))) | exact hK8 _ (by repeat (first | exact Ext.refl _ | assumption | refine Ext.of_drew ?_ | refine Ext.alloc ?_ _ | refine Ext.drew ?_ | refine Ext.trans ?_ (by assumption)))))); (focus (exact rfl)); intro w8 hx8; replace hO := hO.ext hx8; clear hx8; ((try clear hf); have hf := hO.facts; (try simp only [FX, Nat.zero_add, Nat.reduceAdd, and_true, true_and, List.map_cons, List.map_nil, List.cons_append, List.nil_append] at hf))))))
      rw [hk] at hO hka
      ((try clear hf); have hf := hO.facts; (try simp only [FX, Nat.zero_add, Nat.reduceAdd, and_true, true_and, List.map_cons, List.map_nil, List.cons_append, List.nil_append] at hf))
      refine inRun_d rfl ?_; intro K8 hK8
      refine wpList_copy_own4 hO (g := ng) (e := 9) (n := now.length) (xs := (now.map .string)) (by repeat (first | with_reducible exact Pick.here _ _ | with_reducible apply Pick.there)) rfl (.tmp 35) (.tmp 39) 22 22 rfl Tryd.underlying22 Tryd.sizeStr 0 now.length _ ⟨kg, 0, none⟩ now.length _ rfl rfl ((keptAfter (bitOf K) wait kept wait.length).map .string) (by simp; try omega) (fun j v hj => by rw [add_off]; exact vals_src (hO.vals (xs := ((keptAfter (bitOf K) wait kept wait.length).map .string)) (e := 9) (by repeat (first | with_reducible exact Pick.here _ _ | with_reducible apply Pick.there))) j v hj) (by simp; try omega) (ones_map (fun _ => rfl) _) ?_; clear hO; intro w9 hO; rw [splice_all _ _ (by simp; try omega)] at hO; ((try clear hf); have hf := hO.facts; (try simp only [FX, Nat.zero_add, Nat.reduceAdd, and_true, true_and, List.map_cons, List.map_nil, List.cons_append, List.nil_append] at hf))
      go_step; refine hK8 _ _ trivial ?_; clear hK8 K8
      refine inRun_nil ?_
      go_wp2_with (first | ((first | with_reducible refine wpList_alloc_own hO ?_ | with_reducible refine wpList_drew_own hO ?_ | with_reducible refine wp_alloc_own hO ?_ | with_reducible refine wp_drew_own hO ?_ | with_reducible refine bodyPost_alloc_own hO ?_ | with_reducible refine bodyPost_drew_own hO ?_ | ((first | with_reducible apply wpList_set_own | with_reducible apply wp_set_own | with_reducible apply bodyPost_set_own); (focus (first | (with_reducible apply Own.set; (focus (with_reducible apply hO)); (repeat (first | with_reducible exact Put.here _ _ _ | with_reducible apply Put.there)); done) | (with_reducible apply Own.setRow; (focus (with_reducible apply hO)); (focus (repeat (first | with_reducible exact Put.here _ _ _ | with_reducible apply Put.there))); first | assumption | (simp; omega) | (simp; assumption)) | ((repeat' (first | with_reducible apply hO | with_reducible apply Own.set)); all_goals (repeat (first | with_reducible exact Put.here _ _ _ | with_reducible apply Put.there)); done))))); clear hO; intro w9 hO; (try dsimp only [List.set] at hO); ((try clear hf); have hf := hO.facts; (try simp only [FX, Nat.zero_add, Nat.reduceAdd, and_true, true_and, List.map_cons, List.map_nil, List.cons_append, List.nil_append] at hf))))
      have hO9 := hO.nil 106 2
      clear hO
      have hO := hO9
      go_end0
      refine ⟨(), rfl, ?_⟩
      refine Own.toEx ((some ⟨kg, 0, none⟩, kc), (some ⟨ng, 0, none⟩, nc), (none, 0)) (Own.pack ?_)
      simp only [Dk.restart, List.length_nil, List.flatMap_nil, hka]
      exact hO.give (by repeat (first | with_reducible exact Takes.nil _ | with_reducible apply Takes.cons | with_reducible exact Pick.here _ _ | with_reducible apply Pick.there)) (by repeat (first | exact Keeps.here _ | apply Keeps.skip))
end Go.Proofs.YtpdnlgopbnkdhaaDoor
namespace Go.Proofs.YtpdnlgopbnkdhaaDoor
open Go.RowKit
theorem run_copy_rowN {P : Program} (w : World) (dT sT ty elem : TypeId) (size : Nat) (g o dLen dCap : Nat) (a : Addr) (sLen sCap : Nat) (cur : Array Value) (t : TypeId) (cs : List Value)
    (hu : P.underlying dT = some (.slice elem)) (hs : (P.info? elem).map (·.size) = some size)
    (hg : w.heap[g]? = some (.cells cur t (0, 0))) (hn : cs.length = Nat.min sLen dLen * size)
    (hsrc : ∀ j v, cs[j]? = some v → w.cell? (a.add j) = some v) (hfit : o + cs.length ≤ cur.size) (h1 : ∀ v ∈ cs, v.oneCell' = true) :
    (Builtin.copy_ #[dT, sT] ty #[.slice (some ⟨g, o, none⟩) dLen dCap, .slice (some a) sLen sCap]).run P w =
      .ok (goInt (Nat.min sLen dLen)) (w.setRow g (cur.toList.take o ++ cs ++ cur.toList.drop (o + cs.length)).toArray) := by
  have hl := run_loadCells_list (P := P) w a cs hsrc
  have hst := run_storeCells_at P g o t cs 0 cur w hg (by simpa using hfit) h1
  cases hq : P.info? elem with
  | none => simp [hq] at hs
  | some i =>
    have hi : i.size = size := by simpa [hq] using hs
    simp [Builtin.copy_, run_underlying hu, Builtin.lenOf, Builtin.firstCells, sizeOf, typeInfo, hq, hi, ← hn, hl, hst]
section
variable {P : Program} {S : Nat → Prop} {W w w' : World} {l l' l0 l1 : List Rs} {ops : Array Oper} {rest : List Oper} {a : Act} {Q : Exit → Act → World → Prop} {c : Code} {o : Oper}
/-- copy into a row of the call's own, from a place on. -/
theorem wpList_copy_ownN (hO : Own S W w l) {e : TypeId} {size : Nat} {g n cap : Nat} {xs : List Value} (hp : Pick l (Row2 e size (some ⟨g, 0, none⟩) n cap xs) l0) (hgd : o.guard = none) (d s : Operand) (dT sT : TypeId)
    (ho : o.op = .call { callee := .builtin .copy, args := #[d, s], argTypes := #[dT, sT] }) (hu : P.underlying dT = some (.slice e)) (hsz : (P.info? e).map (·.size) = some size)
    (off dLen dCap : Nat) (ad : Addr) (sLen sCap : Nat) (hd : a.eval d = .slice (some ⟨g, off, none⟩) dLen dCap) (hs : a.eval s = .slice (some ad) sLen sCap)
    (cs : List Value) (hn : cs.length = Nat.min sLen dLen * size) (hsrc : ∀ j v, cs[j]? = some v → w.cell? (ad.add j) = some v) (hfit : off + cs.length ≤ n * size) (h1 : ∀ v ∈ cs, v.oneCell' = true)
    (h : ∀ w', Own S W w' (Row2 e size (some ⟨g, 0, none⟩) n cap (splice xs off cs) :: l0) → wpList P ops Q rest (a.put o.dst (goInt (Nat.min sLen dLen))) w') : wpList P ops Q (o :: rest) a w := by
  obtain ⟨M, Z, ⟨h2, h3⟩, h4, _, k⟩ := (hO.pick hp).turn1
  have hg : M g := h3 g rfl
  rcases h2.2 with ⟨hv, _⟩ | ⟨g', c, cur, hv, hb, hgg, hnc, hcm, hcs, ht⟩
  · cases hv
  injection hv with q1 q2 q3
  injection q1 with q1
  injection q1 with q1
  subst q1; subst q3
  have hxs : xs.length = n * size := h2.1
  have hnc2 : n * size ≤ cap * size := Nat.mul_le_mul_right _ hnc
  refine wpList_plain hgd fun K hK => ?_
  unfold Oper.wp execOp
  have hr := run_copy_rowN (P := P) w dT sT o.type e size g off dLen dCap ad sLen sCap cur e cs hu hsz hgg hn hsrc (by omega) h1
  simp only [ho, resolve, invoke, builtin, Sem.run_bind, Sem.run_pure, Result.andThen_ok, List.map_toArray, List.map_cons, List.map_nil, hd, hs, hr]
  have hheap := setRow_heap w g cur (cur.toList.take off ++ cs ++ cur.toList.drop (off + cs.length)).toArray e (0, 0) hgg
  refine hK _ _ (h _ (k _ _ M ⟨rfl, rfl, rfl, by simp [World.setRow], fun k hk hM => setRow_other w g k _ (fun e => hM (by subst e; exact hg))⟩ (fun b h => .inl h) (fun b hb => by simpa [World.setRow] using (h4 b hb).1) ⟨⟨?_, .inr ⟨g, cap, _, rfl, hb, hheap, hnc, hcm, ?_, ?_⟩⟩, h3⟩))
  · have : (splice xs off cs).length = xs.length := length_splice xs off cs (by omega)
    omega
  · have hl : cur.toList.length = cur.size := by simp
    rw [← hcs]
    simp; omega
  · have hl : cur.toList.length = cur.size := by simp
    generalize n * size = N at *
    generalize cap * size = C at *
    subst ht
    unfold splice
    rw [List.append_assoc, List.take_append, List.take_append]
    have e1 : (List.take N (cur.toList.take off)) = List.take off (List.take N cur.toList) := by rw [List.take_take, List.take_take, Nat.min_comm]
    rw [e1, List.length_take, hl, Nat.min_eq_left (by omega), List.take_of_length_le (l := cs) (by omega), List.take_drop]
    congr 3
    rw [show off + cs.length + (N - off - cs.length) = N from by omega]
/-- Nothing is copied into what has no place. -/
theorem wpList_copy_zeroN (hgd : o.guard = none) (d s : Operand) (dT sT : TypeId) (e : TypeId) (size : Nat)
    (ho : o.op = .call { callee := .builtin .copy, args := #[d, s], argTypes := #[dT, sT] }) (hu : P.underlying dT = some (.slice e)) (hsz : (P.info? e).map (·.size) = some size)
    (ad as : Option Addr) (dLen dCap sLen sCap : Nat) (hd : a.eval d = .slice ad dLen dCap) (hs : a.eval s = .slice as sLen sCap) (hz : Nat.min sLen dLen = 0)
    (h : wpList P ops Q rest (a.put o.dst (goInt 0)) w) : wpList P ops Q (o :: rest) a w := by
  refine wpList_plain hgd fun K hK => ?_
  unfold Oper.wp execOp
  have hr : (Builtin.copy_ #[dT, sT] o.type #[.slice ad dLen dCap, .slice as sLen sCap]).run P w = .ok (goInt 0) w := by
    cases hq : P.info? e with
    | none => simp [hq] at hsz
    | some i =>
      cases ad <;> cases as <;> simp [Builtin.copy_, run_underlying hu, Builtin.lenOf, Builtin.firstCells, sizeOf, typeInfo, hq, hz, loadCells, loadCellsFrom, storeCells]
  simp only [ho, resolve, invoke, builtin, Sem.run_bind, Sem.run_pure, Result.andThen_ok, List.map_toArray, List.map_cons, List.map_nil, hd, hs, hr]
  exact hK _ _ h
/-- A row of the call's own, with some of its spare cells. -/
theorem Own.rowWiden {e : TypeId} {size n cap : Nat} {g : Nat} {xs : List Value} (m : Nat) (hm : n + m ≤ cap) (h : Own S W w (Row2 e size (some ⟨g, 0, none⟩) n cap xs :: l)) : ∃ sp : List Value, sp.length = m * size ∧ Own S W w (Row2 e size (some ⟨g, 0, none⟩) (n + m) cap (xs ++ sp) :: l) := by
  obtain ⟨M, Z, ⟨h1, h3⟩, h4, _, k⟩ := h.turn1
  rcases h1.2 with ⟨hv, _⟩ | ⟨g', c, cur, hv, hb, hgg, hnc, hcm, hcs, ht⟩
  · cases hv
  injection hv with q1 q2 q3
  injection q1 with q1
  injection q1 with q1
  subst q1; subst q3
  have hl : cur.toList.length = cur.size := by simp
  have hle : (n + m) * size ≤ cap * size := Nat.mul_le_mul_right _ hm
  have hd : (n + m) * size = n * size + m * size := Nat.add_mul ..
  refine ⟨(cur.toList.drop (n * size)).take (m * size), by rw [List.length_take, List.length_drop, hl]; omega, ?_⟩
  refine k w _ M (Chg.refl _ _) (fun b h => .inl h) (fun b hb => (h4 b hb).1) ⟨⟨?_, .inr ⟨g, cap, cur, rfl, hb, hgg, hm, hcm, hcs, ?_⟩⟩, h3⟩
  · rw [List.length_append, h1.1, List.length_take, List.length_drop, hl]; omega
  · rw [hd, List.take_add, ht]
/-- Two things of the call's own lie apart. -/
theorem Own.apart {e t : TypeId} {size n cap b g : Nat} {cs xs : List Value} (hO : Own S W w l) (hp : Pick l (Var b cs t) l0) (hp2 : Pick l0 (Row2 e size (some ⟨g, 0, none⟩) n cap xs) l1) (hn : 0 < n) (hs : 0 < size) :
    b ≠ g ∧ w.shape? b = some (t, cs.length) ∧ (∃ k, w.shape? g = some (e, k) ∧ k ≠ 0) ∧ ∀ k, w.frozen? ⟨b, k, none⟩ = false := by
  have h := (hO.pick hp).pick (.there _ hp2)
  obtain ⟨hc, M, Z, ⟨M1, M2, ⟨h1, k1⟩, ⟨M3, M4, ⟨h3, k3⟩, _, s3, _, _⟩, s1, s2, d⟩, _⟩ := h
  have hg := k1 g rfl
  refine ⟨fun e => d g hg (s3 g (e ▸ k3)), by simp [World.shape?, h3], ?_, fun k => by simp [World.frozen?, h3]⟩
  rcases h1.2 with ⟨hv, _⟩ | ⟨g', c, cur, hv, hb, hgg, hnc, hcm, hcs, ht⟩
  · cases hv
  injection hv with q1 q2 q3
  injection q1 with q1
  injection q1 with q1
  subst q1
  refine ⟨cur.size, by simp [World.shape?, hgg], ?_⟩
  have := Nat.mul_pos (show 0 < c by omega) hs
  omega
/-- append(s[:i], make(S, k)...), where there is no room: a row of its own. -/
theorem wpList_append_zeros (hO : Own S W w l) (hgd : o.guard = none) (s x : Operand) (t tn : TypeId) (ho : o.op = .call { callee := .builtin .append, args := #[s, x], argTypes := #[t, tn] })
    {e : TypeId} (i : TypeInfo) (z : Value) (size bytes : Nat) (ht : P.underlying t = some (.slice e)) (kn : IntKind) (htn : P.underlying tn = some (.int kn)) (hi : P.info? e = some i) (hz : i.zero = some z)
    (hsize : i.size = size) (hby : i.bytes = bytes) (hzs : z.cells.size = size) (hsz : 0 < size) (g sLen sCap : Nat) (hs : a.eval s = .slice (some ⟨g, 0, none⟩) sLen sCap)
    (olds : List Value) (hl : olds.length = sLen * size) (hc : ∀ j u, olds[j]? = some u → w.cell? ⟨g, 0 + j, none⟩ = some u) (kq : IntKind) (k : Nat) (hx : a.eval x = .int kq k) (h0 : 0 < k)
    (hg : sCap < sLen + k) (h63 : sLen + k ≤ 1000000) (h48 : (sLen + k) * bytes ≤ 140737488355328)
    (h : ∀ kg kc w', Own S W w' (Row2 e size (some ⟨kg, 0, none⟩) (sLen + k) kc (olds ++ (Builtin.zeroCells z.cells k).toList) :: l) → wpList P ops Q rest (a.put o.dst (.slice (some ⟨kg, 0, none⟩) (sLen + k) kc)) w') : wpList P ops Q (o :: rest) a w := by
  subst hsize hby
  have hold : (Builtin.firstCells i.size sLen (.slice (some ⟨g, 0, none⟩) sLen sCap)).run P w.drew = .ok olds.toArray w.drew :=
    run_firstCells_some w.drew i.size sLen ⟨g, 0, none⟩ sLen sCap olds hl (fun j v hj => by rw [add_off]; exact hc j v hj)
  have h48' : k * i.bytes ≤ 281474976710656 := by
    have : k * i.bytes ≤ (sLen + k) * i.bytes := Nat.mul_le_mul_right _ (by omega)
    omega
  have hr := Lib.run_append_grow_zeros w t tn o.type e i z kq kn ht htn hi hz (some ⟨g, 0, none⟩) sLen sCap olds hold k h0 hsz hg (by omega) h48' (growslice_fits hg h48)
  have hge := grownCap_ge w (sLen + k) sCap e
  have hle := grownCap_le_maxLen w (sLen + k) sCap e (by unfold maxLen; omega)
  generalize grownCap w (sLen + k) sCap e = G at *
  have hzc : ∀ n, (Builtin.zeroCells z.cells n).size = n * i.size := fun n => by simp [Builtin.zeroCells, hzs]
  obtain ⟨cur, hcur⟩ : ∃ cur, cur = olds.toArray ++ Builtin.zeroCells z.cells k ++ Builtin.zeroCells z.cells (G - (sLen + k)) := ⟨_, rfl⟩
  rw [← hcur] at hr
  refine wpList_plain hgd fun K hK => ?_
  unfold Oper.wp execOp
  simp only [ho, resolve, invoke, builtin, Sem.run_bind, Sem.run_pure, Result.andThen_ok, List.map_toArray, List.map_cons, List.map_nil, hs, hx, hr]
  have hx1 : Ext w (w.drew.alloc (.cells cur e)) := (Ext.drew_self w).alloc _
  refine hK _ _ (h _ G _ (hO.new hx1 (M' := fun b => b = w.heap.size) (fun b hb => by rw [hb]; simp [World.alloc]) ⟨⟨?_, .inr ⟨w.heap.size, G, cur, rfl, Nat.zero_le _, ?_, hge, hle, ?_, ?_⟩⟩, fun b hb => by simp [Value.ownBlock] at hb; exact hb.symm⟩))
  · rw [List.length_append, hl, Array.length_toList, hzc, Nat.add_mul]
  · exact heap_alloc_new w.drew _
  · rw [hcur]
    simp only [Array.size_append, List.size_toArray, hzc, hl]
    rw [← Nat.add_mul, ← Nat.add_mul]
    congr 1; omega
  · rw [hcur, Array.toList_append, Array.toList_append]
    have e1 : (sLen + k) * i.size = (olds ++ (Builtin.zeroCells z.cells k).toList).length := by rw [List.length_append, hl, Array.length_toList, hzc, Nat.add_mul]
    rw [e1]
    exact List.take_left
end
end Go.Proofs.YtpdnlgopbnkdhaaDoor
namespace Go.Proofs.YtpdnlgopbnkdhaaDoor
open Go.RowKit
theorem Tryd.infoCh : (Tryd.prog.info? 74).map (fun i => (i.zero, i.size, i.bytes)) = some (some (.agg #[.string ⟨#[]⟩, .string ⟨#[]⟩, .bool false]), 3, 40) := by kernel_rfl
theorem run_equalIn_slice_nil' {P : Program} (w : World) (d : Nat) (t e : TypeId) (a : Option Addr) (l c : Nat) (h : P.underlying t = some (.slice e)) : (Op.equalIn (d + 1) t (.slice a l c) (.slice none 0 0)).run P w = .ok a.isNone w := by
  cases a <;> simp [Op.equalIn, run_underlying h]
theorem run_equal_slice_nil' {P : Program} (w : World) (t e : TypeId) (a : Option Addr) (l c : Nat) (h : P.underlying t = some (.slice e)) : (Op.equal t (.slice a l c) (.slice none 0 0)).run P w = .ok a.isNone w := run_equalIn_slice_nil' w 9999 t e a l c h
@[go_sem] theorem run_eql_slice_nil' {P : Program} (w : World) (t e : TypeId) (a : Option Addr) (l c : Nat) (h : P.underlying t = some (.slice e)) : (binOp .eql t (.slice a l c) (.slice none 0 0)).run P w = .ok (.bool a.isNone) w := by
  simp [binOp, run_equal_slice_nil' w t e a l c h]
set_option maxHeartbeats 1000000 in
set_option maxRecDepth 100000 in
theorem cloneC_nil (c : Nat) (w : World) : Calls Tryd.prog 83 #[.slice none 0 c] w fun e w' => e = .returned (.slice none 0 0) ∧ Ext w w' := by
  have hu := Tryd.underlying44
  have hO := Own.start w (fun _ => False)
  go_enter Tryd.func83, Tryd.ntmps83
  go_wp2_with (first | ((first | with_reducible refine wpList_alloc_own hO ?_ | with_reducible refine wpList_drew_own hO ?_ | with_reducible refine wp_alloc_own hO ?_ | with_reducible refine wp_drew_own hO ?_ | with_reducible refine bodyPost_alloc_own hO ?_ | with_reducible refine bodyPost_drew_own hO ?_ | ((first | with_reducible apply wpList_set_own | with_reducible apply wp_set_own | with_reducible apply bodyPost_set_own); (focus (first | (with_reducible apply Own.set; (focus (with_reducible apply hO)); (repeat (first | with_reducible exact Put.here _ _ _ | with_reducible apply Put.there)); done) | (with_reducible apply Own.setRow; (focus (with_reducible apply hO)); (focus (repeat (first | with_reducible exact Put.here _ _ _ | with_reducible apply Put.there))); first | assumption | (simp; omega) | (simp; assumption)) | ((repeat' (first | with_reducible apply hO | with_reducible apply Own.set)); all_goals (repeat (first | with_reducible exact Put.here _ _ _ | with_reducible apply Put.there)); done))))); clear hO; intro w9 hO; (try dsimp only [List.set] at hO); ((try clear hf); have hf := hO.facts; (try simp only [FX, Nat.zero_add, Nat.reduceAdd, and_true, true_and, List.map_cons, List.map_nil, List.cons_append, List.nil_append] at hf))))
  go_ret
  exact ⟨rfl, hO.toExt⟩
set_option maxHeartbeats 1000000 in
set_option maxRecDepth 100000 in
theorem cloneC_does (g off n c : Nat) (l : List Ch) (hl : l.length = n) (hn : n ≤ 1000) {φ : World → Prop} (hφ : ∀ w, φ w → ∀ j v, (chs l)[j]? = some v → w.cell? ⟨g, off + j, none⟩ = some v) :
    Does Tryd.prog 83 #[.slice (some ⟨g, off, none⟩) n c] [.imm φ]
      (fun x : Option Addr × Nat => (.slice x.1 n x.2, [Row2 74 3 x.1 n x.2 (chs l), .imm φ])) := by
  subst hl
  obtain ⟨iC, hiC, hzC, hsC, hbC⟩ := info_parts Tryd.infoCh
  intro S W w L0 hO; simp only [List.cons_append, List.nil_append] at hO
  ((try clear hf); have hf := hO.facts; (try simp only [FX, Nat.zero_add, Nat.reduceAdd, and_true, true_and, List.map_cons, List.map_nil, List.cons_append, List.nil_append] at hf))
  have hu := Tryd.underlying44
  go_enter Tryd.func83, Tryd.ntmps83
  go_wp2_with (first | (at_builtin; (have hO9 := hO.pick (r := Var _ [] 74) (by repeat (first | with_reducible exact Pick.here _ _ | with_reducible apply Pick.there)); replace hO := Own.varRow (n := 0) (size := 3) rfl (by simp [maxLen]) hO9; clear hO9; refine wpList_append_own2 hO (by repeat (first | with_reducible exact Pick.here _ _ | with_reducible apply Pick.there)) rfl (.tmp 5) (.tmp 6) 44 rfl iC _ 40 Tryd.underlying44 hiC hzC hsC hbC rfl (by omega) rfl g off l.length _ (chs l) rfl (chs_length l) (hφ _ (hO.immOf (by repeat (first | with_reducible exact Pick.here _ _ | with_reducible apply Pick.there)))) (chs_one l) (by unfold maxLen; omega) (by omega) ?_; clear hO; intro ka9 kc9 w9 hO; ((try clear hf); have hf := hO.facts; (try simp only [FX, Nat.zero_add, Nat.reduceAdd, and_true, true_and, List.map_cons, List.map_nil, List.cons_append, List.nil_append] at hf)))) | ((first | with_reducible refine wpList_alloc_own hO ?_ | with_reducible refine wpList_drew_own hO ?_ | with_reducible refine wp_alloc_own hO ?_ | with_reducible refine wp_drew_own hO ?_ | with_reducible refine bodyPost_alloc_own hO ?_ | with_reducible refine bodyPost_drew_own hO ?_ | ((first | with_reducible apply wpList_set_own | with_reducible apply wp_set_own | with_reducible apply bodyPost_set_own); (focus (first | (with_reducible apply Own.set; (focus (with_reducible apply hO)); (repeat (first | with_reducible exact Put.here _ _ _ | with_reducible apply Put.there)); done) | (with_reducible apply Own.setRow; (focus (with_reducible apply hO)); (focus (repeat (first | with_reducible exact Put.here _ _ _ | with_reducible apply Put.there))); first | assumption | (simp; omega) | (simp; assumption)) | ((repeat' (first | with_reducible apply hO | with_reducible apply Own.set)); all_goals (repeat (first | with_reducible exact Put.here _ _ _ | with_reducible apply Put.there)); done))))); clear hO; intro w9 hO; (try dsimp only [List.set] at hO); ((try clear hf); have hf := hO.facts; (try simp only [FX, Nat.zero_add, Nat.reduceAdd, and_true, true_and, List.map_cons, List.map_nil, List.cons_append, List.nil_append] at hf))))
  go_ret
  refine ⟨(ka9, kc9), by simp, ?_⟩
  simp only [Nat.zero_add, List.nil_append] at hO
  exact hO.give (by repeat (first | with_reducible exact Takes.nil _ | with_reducible apply Takes.cons | with_reducible exact Pick.here _ _ | with_reducible apply Pick.there)) (by repeat (first | exact Keeps.here _ | apply Keeps.skip))
theorem splice_mid {A Z cs : List Value} (o : Nat) (hA : A.length = o) (h : cs.length ≤ Z.length) : splice (A ++ Z) o cs = A ++ cs ++ Z.drop cs.length := by
  subst hA
  unfold splice
  rw [List.take_left, List.drop_append, List.drop_of_length_le (by omega), List.nil_append, show A.length + cs.length - A.length = cs.length from by omega, List.append_assoc]
set_option maxHeartbeats 1000000 in
set_option maxRecDepth 100000 in
/-- At the end. -/
theorem insertC_end (a : Option Addr) (n c g vc : Nat) (l : List Ch) (x : Ch) (hl : l.length = n) (hn : n ≤ 1000) (hnc : n ≤ c) :
    Does Tryd.prog 122 #[.slice a n c, .int .i64 n, .slice (some ⟨g, 0, none⟩) 1 vc] [Row2 74 3 a n c (chs l), Var g x.cells 74]
      (fun p : Option Addr × Nat => (.slice p.1 (n + 1) p.2, [Row2 74 3 p.1 (n + 1) p.2 (chs (insAt l n x))])) := by
  obtain ⟨iC, hiC, hzC, hsC, hbC⟩ := info_parts Tryd.infoCh
  have hfin : chs (insAt l n x) = chs l ++ x.cells := by rw [← hl]; exact insAt_end l x
  rw [hfin]
  clear hfin
  intro S W w L0 hO; simp only [List.cons_append, List.nil_append] at hO
  ((try clear hf); have hf := hO.facts; (try simp only [FX, Nat.zero_add, Nat.reduceAdd, and_true, true_and, List.map_cons, List.map_nil, List.cons_append, List.nil_append] at hf))
  rcases Nat.eq_or_lt_of_le hnc with rfl | hlt
  · go_enter Tryd.func122, Tryd.ntmps122
    go_wp2_with (first | (at_builtin; (refine wpList_append_var hO (by repeat (first | with_reducible exact Pick.here _ _ | with_reducible apply Pick.there)) (by repeat (first | with_reducible exact Pick.here _ _ | with_reducible apply Pick.there)) rfl (.tmp 23) (.tmp 24) 44 rfl iC _ 40 Tryd.underlying44 hiC hzC hsC hbC rfl (by omega) rfl _ _ rfl (by rfl) (Ch.ones _) (by unfold maxLen; omega) (by omega) ?_; clear hO; intro ka9 kc9 w9 hO; ((try clear hf); have hf := hO.facts; (try simp only [FX, Nat.zero_add, Nat.reduceAdd, and_true, true_and, List.map_cons, List.map_nil, List.cons_append, List.nil_append] at hf)))) | ((first | with_reducible refine wpList_alloc_own hO ?_ | with_reducible refine wpList_drew_own hO ?_ | with_reducible refine wp_alloc_own hO ?_ | with_reducible refine wp_drew_own hO ?_ | with_reducible refine bodyPost_alloc_own hO ?_ | with_reducible refine bodyPost_drew_own hO ?_ | ((first | with_reducible apply wpList_set_own | with_reducible apply wp_set_own | with_reducible apply bodyPost_set_own); (focus (first | (with_reducible apply Own.set; (focus (with_reducible apply hO)); (repeat (first | with_reducible exact Put.here _ _ _ | with_reducible apply Put.there)); done) | (with_reducible apply Own.setRow; (focus (with_reducible apply hO)); (focus (repeat (first | with_reducible exact Put.here _ _ _ | with_reducible apply Put.there))); first | assumption | (simp; omega) | (simp; assumption)) | ((repeat' (first | with_reducible apply hO | with_reducible apply Own.set)); all_goals (repeat (first | with_reducible exact Put.here _ _ _ | with_reducible apply Put.there)); done))))); clear hO; intro w9 hO; (try dsimp only [List.set] at hO); ((try clear hf); have hf := hO.facts; (try simp only [FX, Nat.zero_add, Nat.reduceAdd, and_true, true_and, List.map_cons, List.map_nil, List.cons_append, List.nil_append] at hf))))
    all_goals (go_ret; refine ⟨(ka9, kc9), rfl, ?_⟩; exact hO.give (by repeat (first | with_reducible exact Takes.nil _ | with_reducible apply Takes.cons | with_reducible exact Pick.here _ _ | with_reducible apply Pick.there)) (by repeat (first | exact Keeps.here _ | apply Keeps.skip)))
  · have hne : ¬ c = n := by omega
    go_enter Tryd.func122, Tryd.ntmps122
    go_wp2_with (first | (at_builtin; (refine wpList_append_var hO (by repeat (first | with_reducible exact Pick.here _ _ | with_reducible apply Pick.there)) (by repeat (first | with_reducible exact Pick.here _ _ | with_reducible apply Pick.there)) rfl (.tmp 23) (.tmp 24) 44 rfl iC _ 40 Tryd.underlying44 hiC hzC hsC hbC rfl (by omega) rfl _ _ rfl (by rfl) (Ch.ones _) (by unfold maxLen; omega) (by omega) ?_; clear hO; intro ka9 kc9 w9 hO; ((try clear hf); have hf := hO.facts; (try simp only [FX, Nat.zero_add, Nat.reduceAdd, and_true, true_and, List.map_cons, List.map_nil, List.cons_append, List.nil_append] at hf)))) | ((first | with_reducible refine wpList_alloc_own hO ?_ | with_reducible refine wpList_drew_own hO ?_ | with_reducible refine wp_alloc_own hO ?_ | with_reducible refine wp_drew_own hO ?_ | with_reducible refine bodyPost_alloc_own hO ?_ | with_reducible refine bodyPost_drew_own hO ?_ | ((first | with_reducible apply wpList_set_own | with_reducible apply wp_set_own | with_reducible apply bodyPost_set_own); (focus (first | (with_reducible apply Own.set; (focus (with_reducible apply hO)); (repeat (first | with_reducible exact Put.here _ _ _ | with_reducible apply Put.there)); done) | (with_reducible apply Own.setRow; (focus (with_reducible apply hO)); (focus (repeat (first | with_reducible exact Put.here _ _ _ | with_reducible apply Put.there))); first | assumption | (simp; omega) | (simp; assumption)) | ((repeat' (first | with_reducible apply hO | with_reducible apply Own.set)); all_goals (repeat (first | with_reducible exact Put.here _ _ _ | with_reducible apply Put.there)); done))))); clear hO; intro w9 hO; (try dsimp only [List.set] at hO); ((try clear hf); have hf := hO.facts; (try simp only [FX, Nat.zero_add, Nat.reduceAdd, and_true, true_and, List.map_cons, List.map_nil, List.cons_append, List.nil_append] at hf))))
    all_goals (go_ret; refine ⟨(ka9, kc9), rfl, ?_⟩; exact hO.give (by repeat (first | with_reducible exact Takes.nil _ | with_reducible apply Takes.cons | with_reducible exact Pick.here _ _ | with_reducible apply Pick.there)) (by repeat (first | exact Keeps.here _ | apply Keeps.skip)))
set_option maxHeartbeats 2000000 in
set_option maxRecDepth 100000 in
/-- In the midst, where there is no room. -/
theorem insertC_grow (g0 n c g vc i : Nat) (l : List Ch) (x : Ch) (hl : l.length = n) (hn : n ≤ 1000) (hi : i < n) (hnc : n ≤ c) (hc : c ≤ n) :
    Does Tryd.prog 122 #[.slice (some ⟨g0, 0, none⟩) n c, .int .i64 i, .slice (some ⟨g, 0, none⟩) 1 vc] [Row2 74 3 (some ⟨g0, 0, none⟩) n c (chs l), Var g x.cells 74]
      (fun p : Option Addr × Nat => (.slice p.1 (n + 1) p.2, [Row2 74 3 p.1 (n + 1) p.2 (chs (insAt l i x))])) := by
  obtain rfl : c = n := by omega
  obtain ⟨iC, hiC, hzC, hsC, hbC⟩ := info_parts Tryd.infoCh
  rw [insAt_cells]
  have hcl := chs_length l
  generalize hxs : chs l = xs at *
  have hxl : xs.length = c * 3 := by omega
  have HO1 := Lib.hid (hxs ▸ chs_one l)
  clear hcl hl
  intro S W w L0 hO; simp only [List.cons_append, List.nil_append] at hO
  ((try clear hf); have hf := hO.facts; (try simp only [FX, Nat.zero_add, Nat.reduceAdd, and_true, true_and, List.map_cons, List.map_nil, List.cons_append, List.nil_append] at hf))
  have hci : ¬ c = i := by omega
  have hci2 : ¬ (c : Int) = i := by omega
  have hik : i + (c + 1 - i) = c + 1 := by omega
  have HIK := Lib.hid hik
  clear hik
  have hv : Value.int .i64 ((c : Int) + 1 - i) = .int .i64 ((c + 1 - i : Nat) : Int) := by congr 1; omega
  have HV := Lib.hid hv
  clear hv
  have hsrc : ∀ j u, (xs.take (i * 3))[j]? = some u → w.cell? ⟨g0, 0 + j, none⟩ = some u := fun j u hj => by
    rw [List.getElem?_take] at hj
    split at hj
    · exact vals_src (g := g0) (off := 0) hf.1.1 j u hj
    · cases hj
  have HS := Lib.hid hsrc
  clear hsrc
  go_enter Tryd.func122, Tryd.ntmps122
  go_upto_region 10 with (first | (at_builtin; (refine wpList_append_zeros hO rfl (.tmp 34) (.tmp 39) 44 3 rfl iC _ 3 40 Tryd.underlying44 .i64 Tryd.underlying3 hiC hzC hsC hbC rfl (by omega) g0 i c rfl (xs.take (i * 3)) (by rw [List.length_take]; omega) HS.out .i64 (c + 1 - i) HV.out (by omega) (by omega) (by omega) (by omega) ?_; clear hO; intro kg9 kc9 w9 hO; rw [HIK.out] at hO ⊢; have hkl := hO.rowLen (by repeat (first | with_reducible exact Pick.here _ _ | with_reducible apply Pick.there)); rw [List.length_append] at hkl; generalize (Builtin.zeroCells _ (c + 1 - i)).toList = zs at hO hkl; ((try clear hf); have hf := hO.facts; (try simp only [FX, Nat.zero_add, Nat.reduceAdd, and_true, true_and, List.map_cons, List.map_nil, List.cons_append, List.nil_append] at hf)))) | ((first | with_reducible refine wpList_alloc_own hO ?_ | with_reducible refine wpList_drew_own hO ?_ | with_reducible refine wp_alloc_own hO ?_ | with_reducible refine wp_drew_own hO ?_ | with_reducible refine bodyPost_alloc_own hO ?_ | with_reducible refine bodyPost_drew_own hO ?_ | ((first | with_reducible apply wpList_set_own | with_reducible apply wp_set_own | with_reducible apply bodyPost_set_own); (focus (first | (with_reducible apply Own.set; (focus (with_reducible apply hO)); (repeat (first | with_reducible exact Put.here _ _ _ | with_reducible apply Put.there)); done) | (with_reducible apply Own.setRow; (focus (with_reducible apply hO)); (focus (repeat (first | with_reducible exact Put.here _ _ _ | with_reducible apply Put.there))); first | assumption | (simp; omega) | (simp; assumption)) | ((repeat' (first | with_reducible apply hO | with_reducible apply Own.set)); all_goals (repeat (first | with_reducible exact Put.here _ _ _ | with_reducible apply Put.there)); done))))); clear hO; intro w9 hO; (try dsimp only [List.set] at hO); ((try clear hf); have hf := hO.facts; (try simp only [FX, Nat.zero_add, Nat.reduceAdd, and_true, true_and, List.map_cons, List.map_nil, List.cons_append, List.nil_append] at hf))))
  go_wp2_with (first | ((with_reducible show wpList _ _ _ (Oper.mk _ (.call { callee := .builtin .copy, args := _, argTypes := _ }) _ _ _ _ :: _) _ _); (refine wpList_copy_ownN hO (g := kg9) (n := c + 1) (xs := List.take (i * 3) xs ++ zs) (by repeat (first | with_reducible exact Pick.here _ _ | with_reducible apply Pick.there)) rfl (.tmp 43) (.tmp 44) 44 44 rfl Tryd.underlying44 (by rw [hiC]; simp [hsC]) (i * 3) (c + 1 - i) _ ⟨g, 0, none⟩ 1 _ rfl rfl x.cells (by rw [show Nat.min 1 (c + 1 - i) = 1 from Nat.min_eq_left (by omega)]; rfl) (fun j v hj => by rw [add_off]; exact Var.at (t := 74) (hO.factOf (r := Var g x.cells 74) (by repeat (first | with_reducible exact Pick.here _ _ | with_reducible apply Pick.there))) j v hj) (by rw [show x.cells.length = 3 from rfl]; omega) (Ch.ones x) ?_; clear hO; intro w9 hO; rw [splice_mid (i * 3) (by rw [List.length_take]; omega) (by rw [List.length_take] at hkl; rw [show x.cells.length = 3 from rfl]; omega)] at hO; ((try clear hf); have hf := hO.facts; (try simp only [FX, Nat.zero_add, Nat.reduceAdd, and_true, true_and, List.map_cons, List.map_nil, List.cons_append, List.nil_append] at hf)))) | ((first | with_reducible refine wpList_alloc_own hO ?_ | with_reducible refine wpList_drew_own hO ?_ | with_reducible refine wp_alloc_own hO ?_ | with_reducible refine wp_drew_own hO ?_ | with_reducible refine bodyPost_alloc_own hO ?_ | with_reducible refine bodyPost_drew_own hO ?_ | ((first | with_reducible apply wpList_set_own | with_reducible apply wp_set_own | with_reducible apply bodyPost_set_own); (focus (first | (with_reducible apply Own.set; (focus (with_reducible apply hO)); (repeat (first | with_reducible exact Put.here _ _ _ | with_reducible apply Put.there)); done) | (with_reducible apply Own.setRow; (focus (with_reducible apply hO)); (focus (repeat (first | with_reducible exact Put.here _ _ _ | with_reducible apply Put.there))); first | assumption | (simp; omega) | (simp; assumption)) | ((repeat' (first | with_reducible apply hO | with_reducible apply Own.set)); all_goals (repeat (first | with_reducible exact Put.here _ _ _ | with_reducible apply Put.there)); done))))); clear hO; intro w9 hO; (try dsimp only [List.set] at hO); ((try clear hf); have hf := hO.facts; (try simp only [FX, Nat.zero_add, Nat.reduceAdd, and_true, true_and, List.map_cons, List.map_nil, List.cons_append, List.nil_append] at hf))))
  (refine wp_region_run (fun _ => True) (fun _ _ _ _ => trivial) trivial ((0, 0) :: (0, 1) :: (0, 2) :: (0, 3) :: (0, 4) :: (0, 5) :: (0, 6) :: (0, 7) :: (5, 8) :: []) (by kernel_rfl) (by kernel_rfl) rfl (fun _ _ d _ _ h => by cases d <;> exact h) ?_; intro w9 hx9; replace hO := hO.ext hx9; clear hx9; ((try clear hf); have hf := hO.facts; (try simp only [FX, Nat.zero_add, Nat.reduceAdd, and_true, true_and, List.map_cons, List.map_nil, List.cons_append, List.nil_append] at hf)); (repeat (first | (apply inRun_p _ rfl rfl rfl; focus (intro w8 K8 hK8; (repeat (first | go_skip | go_guarded | go_step)); exact hK8)) | (apply inRun_l _ rfl rfl rfl; focus (intro w8 hx8 K8 hK8; have hO := hO.ext hx8; ((try clear hf); have hf := hO.facts; (try simp only [FX, Nat.zero_add, Nat.reduceAdd, and_true, true_and, List.map_cons, List.map_nil, List.cons_append, List.nil_append] at hf)); skip; (repeat (first | go_skip | go_guarded | go_step)); exact hK8)) | (apply inRun_q _ rfl; (focus (intro w8 hx8 K8 hK8; have hO := hO.ext hx8; ((try clear hf); have hf := hO.facts; (try simp only [FX, Nat.zero_add, Nat.reduceAdd, and_true, true_and, List.map_cons, List.map_nil, List.cons_append, List.nil_append] at hf)); (repeat (first | go_skip | go_guarded | go_step | fail)); (first | exact (by repeat (first | exact Ext.refl _ | assumption | refine Ext.of_drew ?_ | refine Ext.alloc ?_ _ | refine Ext.drew ?_ | refine Ext.trans ?_ (by assumption))) | exact hK8 _ (by repeat (first | exact Ext.refl _ | assumption | refine Ext.of_drew ?_ | refine Ext.alloc ?_ _ | refine Ext.drew ?_ | refine Ext.trans ?_ (by assumption)))))); (focus (exact rfl)); intro w8 hx8; replace hO := hO.ext hx8; clear hx8; ((try clear hf); have hf := hO.facts; (try simp only [FX, Nat.zero_add, Nat.reduceAdd, and_true, true_and, List.map_cons, List.map_nil, List.cons_append, List.nil_append] at hf))))))
  refine inRun_d rfl ?_; intro K8 hK8
  (refine wpList_copy_ownN hO (g := kg9) (n := c + 1) (xs := List.take (i * 3) xs ++ x.cells ++ List.drop x.cells.length zs) (by repeat (first | with_reducible exact Pick.here _ _ | with_reducible apply Pick.there)) rfl (.tmp 50) (.tmp 53) 44 44 rfl Tryd.underlying44 (by rw [hiC]; simp [hsC]) ((i + 1) * 3) (c - i) _ ⟨g0, i * 3, none⟩ (c - i) _ rfl rfl (xs.drop (i * 3)) (by rw [List.length_drop, show Nat.min (c - i) (c - i) = c - i from Nat.min_self _]; omega) (fun j v hj => by rw [add_off]; rw [List.getElem?_drop] at hj; have := vals_src (g := g0) (off := 0) (hO.vals (xs := xs) (e := 74) (by repeat (first | with_reducible exact Pick.here _ _ | with_reducible apply Pick.there))) _ v hj; rwa [Nat.zero_add] at this) (by rw [List.length_drop]; omega) (fun u hu => HO1.out u (List.mem_of_mem_drop hu)) ?_; clear hO; intro w9 hO; rw [splice_mid ((i + 1) * 3) (by rw [List.length_append, List.length_take, show x.cells.length = 3 from rfl]; omega) (by rw [List.length_drop, List.length_drop, show x.cells.length = 3 from rfl]; rw [List.length_take] at hkl; omega)] at hO; ((try clear hf); have hf := hO.facts; (try simp only [FX, Nat.zero_add, Nat.reduceAdd, and_true, true_and, List.map_cons, List.map_nil, List.cons_append, List.nil_append] at hf)))
  go_step; refine hK8 _ _ trivial ?_; clear hK8 K8
  refine inRun_nil ?_
  go_wp2_with (first | ((first | with_reducible refine wpList_alloc_own hO ?_ | with_reducible refine wpList_drew_own hO ?_ | with_reducible refine wp_alloc_own hO ?_ | with_reducible refine wp_drew_own hO ?_ | with_reducible refine bodyPost_alloc_own hO ?_ | with_reducible refine bodyPost_drew_own hO ?_ | ((first | with_reducible apply wpList_set_own | with_reducible apply wp_set_own | with_reducible apply bodyPost_set_own); (focus (first | (with_reducible apply Own.set; (focus (with_reducible apply hO)); (repeat (first | with_reducible exact Put.here _ _ _ | with_reducible apply Put.there)); done) | (with_reducible apply Own.setRow; (focus (with_reducible apply hO)); (focus (repeat (first | with_reducible exact Put.here _ _ _ | with_reducible apply Put.there))); first | assumption | (simp; omega) | (simp; assumption)) | ((repeat' (first | with_reducible apply hO | with_reducible apply Own.set)); all_goals (repeat (first | with_reducible exact Put.here _ _ _ | with_reducible apply Put.there)); done))))); clear hO; intro w9 hO; (try dsimp only [List.set] at hO); ((try clear hf); have hf := hO.facts; (try simp only [FX, Nat.zero_add, Nat.reduceAdd, and_true, true_and, List.map_cons, List.map_nil, List.cons_append, List.nil_append] at hf))))
  go_ret
  refine ⟨(some ⟨kg9, 0, none⟩, kc9), rfl, ?_⟩
  rw [show List.drop (List.drop (i * 3) xs).length (List.drop x.cells.length zs) = [] from List.drop_of_length_le (by rw [List.length_drop, List.length_drop, show x.cells.length = 3 from rfl]; rw [List.length_take] at hkl; omega), List.append_nil, List.append_assoc] at hO
  exact hO.give (by repeat (first | with_reducible exact Takes.nil _ | with_reducible apply Takes.cons | with_reducible exact Pick.here _ _ | with_reducible apply Pick.there)) (by repeat (first | exact Keeps.here _ | apply Keeps.skip))
theorem splice_shift {xs sp cs : List Value} (o : Nat) (h : o ≤ xs.length) (hs : sp.length = cs.length) : splice (splice (xs ++ sp) (o + cs.length) (xs.drop o)) o cs = xs.take o ++ (cs ++ xs.drop o) := by
  have e1 : (xs ++ sp).drop (o + cs.length + (xs.drop o).length) = [] := List.drop_of_length_le (by rw [List.length_append, List.length_drop]; omega)
  have e2 : ((xs ++ sp).take (o + cs.length)).length = o + cs.length := by rw [List.length_take, List.length_append]; omega
  unfold splice
  rw [e1, List.append_nil, List.take_append_of_le_length (by omega), List.take_take, Nat.min_eq_left (by omega), List.take_append_of_le_length h]
  rw [List.drop_append, e2, Nat.sub_self, List.drop_zero, List.drop_of_length_le (by omega), List.nil_append]
  try rw [List.append_assoc]
set_option maxHeartbeats 2000000 in
set_option maxRecDepth 100000 in
/-- In the midst, where there is room. -/
theorem insertC_shift (g0 n c g vc i : Nat) (l : List Ch) (x : Ch) (hl : l.length = n) (hn : n ≤ 1000) (hi : i < n) (hnc : n < c) (hcm : c ≤ 9223372036854775807) :
    Does Tryd.prog 122 #[.slice (some ⟨g0, 0, none⟩) n c, .int .i64 i, .slice (some ⟨g, 0, none⟩) 1 vc] [Row2 74 3 (some ⟨g0, 0, none⟩) n c (chs l), Var g x.cells 74]
      (fun p : Option Addr × Nat => (.slice p.1 (n + 1) p.2, [Row2 74 3 p.1 (n + 1) p.2 (chs (insAt l i x))])) := by
  obtain ⟨iC, hiC, hzC, hsC, hbC⟩ := info_parts Tryd.infoCh
  rw [insAt_cells]
  have hcl := chs_length l
  have HO1 := Lib.hid (chs_one l)
  generalize chs l = xs at *
  have hxl : xs.length = n * 3 := by omega
  clear hcl hl
  intro S W w L0 hO
  simp only [List.cons_append, List.nil_append] at hO
  obtain ⟨sp, hsp, hO9⟩ := hO.rowWiden 1 (by omega)
  clear hO
  have hO := hO9
  clear hO9
  ((try clear hf); have hf := hO.facts; (try simp only [FX, Nat.zero_add, Nat.reduceAdd, and_true, true_and, List.map_cons, List.map_nil, List.cons_append, List.nil_append] at hf))
  have hap := hO.apart (b := g) (cs := x.cells) (t := 74) (g := g0) (n := n + 1) (size := 3) (.there _ (.here _ _)) (.here _ _) (by omega) (by omega)
  have hni : ¬ n = i := by omega
  have hni2 : ¬ (n : Int) = i := by omega
  have hov : ∀ lb cb, (callFunc 136 #[.slice (some ⟨g, 0, none⟩) 1 vc, .slice (some ⟨g0, (i + 1) * 3, none⟩) lb cb]).run Tryd.prog w = .ok (.value (.bool false)) w := fun lb cb => by
    obtain ⟨h1, h2, ⟨k, h3, h4⟩, h5⟩ := hap
    rw [run_callFunc_extern Tryd.func136 (by kernel_rfl) (by kernel_rfl) (by kernel_rfl) (e := Extern.SlicesOverlaps.overlaps #[44, 44] #[4]) (by kernel_rfl),
      Lib.run_overlaps_apart w 44 4 74 Tryd.underlying44 3 Tryd.sizeOf74 ⟨g, 0, none⟩ ⟨g0, (i + 1) * 3, none⟩ 1 vc lb cb h1 _ _ _ _ h2 h3 h4 (h5 0) (h5 _)]
    rfl
  clear hap
  go_enter Tryd.func122, Tryd.ntmps122
  go_upto_region 15 with (first | (simp only [hov]) | ((first | with_reducible refine wpList_alloc_own hO ?_ | with_reducible refine wpList_drew_own hO ?_ | with_reducible refine wp_alloc_own hO ?_ | with_reducible refine wp_drew_own hO ?_ | with_reducible refine bodyPost_alloc_own hO ?_ | with_reducible refine bodyPost_drew_own hO ?_ | ((first | with_reducible apply wpList_set_own | with_reducible apply wp_set_own | with_reducible apply bodyPost_set_own); (focus (first | (with_reducible apply Own.set; (focus (with_reducible apply hO)); (repeat (first | with_reducible exact Put.here _ _ _ | with_reducible apply Put.there)); done) | (with_reducible apply Own.setRow; (focus (with_reducible apply hO)); (focus (repeat (first | with_reducible exact Put.here _ _ _ | with_reducible apply Put.there))); first | assumption | (simp; omega) | (simp; assumption)) | ((repeat' (first | with_reducible apply hO | with_reducible apply Own.set)); all_goals (repeat (first | with_reducible exact Put.here _ _ _ | with_reducible apply Put.there)); done))))); clear hO; intro w9 hO; (try dsimp only [List.set] at hO); ((try clear hf); have hf := hO.facts; (try simp only [FX, Nat.zero_add, Nat.reduceAdd, and_true, true_and, List.map_cons, List.map_nil, List.cons_append, List.nil_append] at hf))))
  (refine wp_region_run (fun _ => True) (fun _ _ _ _ => trivial) trivial ((0, 0) :: (0, 1) :: (0, 2) :: (0, 3) :: (0, 4) :: (0, 5) :: (0, 6) :: (0, 7) :: (5, 8) :: []) (by kernel_rfl) (by kernel_rfl) rfl (fun _ _ d _ _ h => by cases d <;> exact h) ?_; intro w9 hx9; replace hO := hO.ext hx9; clear hx9; ((try clear hf); have hf := hO.facts; (try simp only [FX, Nat.zero_add, Nat.reduceAdd, and_true, true_and, List.map_cons, List.map_nil, List.cons_append, List.nil_append] at hf)); (repeat (first | (apply inRun_p _ rfl rfl rfl; focus (intro w8 K8 hK8; (repeat (first | go_skip | go_guarded | go_step)); exact hK8)) | (apply inRun_l _ rfl rfl rfl; focus (intro w8 hx8 K8 hK8; have hO := hO.ext hx8; ((try clear hf); have hf := hO.facts; (try simp only [FX, Nat.zero_add, Nat.reduceAdd, and_true, true_and, List.map_cons, List.map_nil, List.cons_append, List.nil_append] at hf)); skip; (repeat (first | go_skip | go_guarded | go_step)); exact hK8)) | (apply inRun_q _ rfl; (focus (intro w8 hx8 K8 hK8; have hO := hO.ext hx8; ((try clear hf); have hf := hO.facts; (try simp only [FX, Nat.zero_add, Nat.reduceAdd, and_true, true_and, List.map_cons, List.map_nil, List.cons_append, List.nil_append] at hf)); (repeat (first | go_skip | go_guarded | go_step | fail)); (first | exact (by repeat (first | exact Ext.refl _ | assumption | refine Ext.of_drew ?_ | refine Ext.alloc ?_ _ | refine Ext.drew ?_ | refine Ext.trans ?_ (by assumption))) | exact hK8 _ (by repeat (first | exact Ext.refl _ | assumption | refine Ext.of_drew ?_ | refine Ext.alloc ?_ _ | refine Ext.drew ?_ | refine Ext.trans ?_ (by assumption)))))); (focus (exact rfl)); intro w8 hx8; replace hO := hO.ext hx8; clear hx8; ((try clear hf); have hf := hO.facts; (try simp only [FX, Nat.zero_add, Nat.reduceAdd, and_true, true_and, List.map_cons, List.map_nil, List.cons_append, List.nil_append] at hf))))))
  refine inRun_d rfl ?_; intro K8 hK8
  (refine wpList_copy_ownN hO (g := g0) (n := n + 1) (xs := xs ++ sp) (by repeat (first | with_reducible exact Pick.here _ _ | with_reducible apply Pick.there)) rfl (.tmp 73) (.tmp 76) 44 44 rfl Tryd.underlying44 (by rw [hiC]; simp [hsC]) ((i + 1) * 3) (n - i) _ ⟨g0, i * 3, none⟩ (n + 1 - i) _ rfl rfl (xs.drop (i * 3)) (by rw [List.length_drop, show Nat.min (n + 1 - i) (n - i) = n - i from Nat.min_eq_right (by omega)]; omega) (fun j v hj => by rw [add_off]; have := vals_src (g := g0) (off := 0) (hO.vals (xs := xs ++ sp) (e := 74) (by repeat (first | with_reducible exact Pick.here _ _ | with_reducible apply Pick.there))) (i * 3 + j) v (by rw [List.getElem?_append_left (by have := (List.getElem?_eq_some_iff.1 hj).1; rw [List.length_drop] at this; omega)]; rwa [List.getElem?_drop] at hj); rwa [Nat.zero_add] at this) (by rw [List.length_drop]; omega) (fun u hu => HO1.out u (List.mem_of_mem_drop hu)) ?_; clear hO; intro w9 hO; ((try clear hf); have hf := hO.facts; (try simp only [FX, Nat.zero_add, Nat.reduceAdd, and_true, true_and, List.map_cons, List.map_nil, List.cons_append, List.nil_append] at hf)))
  go_step; refine hK8 _ _ trivial ?_; clear hK8 K8
  refine inRun_nil ?_
  go_upto_region 17 with (first | ((with_reducible show wpList _ _ _ (Oper.mk _ (.call { callee := .builtin .copy, args := _, argTypes := _ }) _ _ _ _ :: _) _ _); (refine wpList_copy_ownN hO (g := g0) (n := n + 1) (by repeat (first | with_reducible exact Pick.here _ _ | with_reducible apply Pick.there)) rfl (.tmp 80) (.tmp 81) 44 44 rfl Tryd.underlying44 (by rw [hiC]; simp [hsC]) (i * 3) (n + 1 - i) _ ⟨g, 0, none⟩ 1 _ rfl rfl x.cells (by rw [show Nat.min 1 (n + 1 - i) = 1 from Nat.min_eq_left (by omega)]; rfl) (fun j v hj => by rw [add_off]; exact Var.at (t := 74) (hO.factOf (r := Var g x.cells 74) (by repeat (first | with_reducible exact Pick.here _ _ | with_reducible apply Pick.there))) j v hj) (by rw [show x.cells.length = 3 from rfl]; omega) (Ch.ones x) ?_; clear hO; intro w9 hO; rw [show (i + 1) * 3 = i * 3 + x.cells.length from by rw [show x.cells.length = 3 from rfl]; omega, splice_shift (i * 3) (by omega) hsp] at hO; ((try clear hf); have hf := hO.facts; (try simp only [FX, Nat.zero_add, Nat.reduceAdd, and_true, true_and, List.map_cons, List.map_nil, List.cons_append, List.nil_append] at hf)))) | ((first | with_reducible refine wpList_alloc_own hO ?_ | with_reducible refine wpList_drew_own hO ?_ | with_reducible refine wp_alloc_own hO ?_ | with_reducible refine wp_drew_own hO ?_ | with_reducible refine bodyPost_alloc_own hO ?_ | with_reducible refine bodyPost_drew_own hO ?_ | ((first | with_reducible apply wpList_set_own | with_reducible apply wp_set_own | with_reducible apply bodyPost_set_own); (focus (first | (with_reducible apply Own.set; (focus (with_reducible apply hO)); (repeat (first | with_reducible exact Put.here _ _ _ | with_reducible apply Put.there)); done) | (with_reducible apply Own.setRow; (focus (with_reducible apply hO)); (focus (repeat (first | with_reducible exact Put.here _ _ _ | with_reducible apply Put.there))); first | assumption | (simp; omega) | (simp; assumption)) | ((repeat' (first | with_reducible apply hO | with_reducible apply Own.set)); all_goals (repeat (first | with_reducible exact Put.here _ _ _ | with_reducible apply Put.there)); done))))); clear hO; intro w9 hO; (try dsimp only [List.set] at hO); ((try clear hf); have hf := hO.facts; (try simp only [FX, Nat.zero_add, Nat.reduceAdd, and_true, true_and, List.map_cons, List.map_nil, List.cons_append, List.nil_append] at hf))))
  simp only [Act.put, List.setIfInBounds_toArray, List.set_cons_succ, List.set_cons_zero]
  go_wp2_with (first | ((first | with_reducible refine wpList_alloc_own hO ?_ | with_reducible refine wpList_drew_own hO ?_ | with_reducible refine wp_alloc_own hO ?_ | with_reducible refine wp_drew_own hO ?_ | with_reducible refine bodyPost_alloc_own hO ?_ | with_reducible refine bodyPost_drew_own hO ?_ | ((first | with_reducible apply wpList_set_own | with_reducible apply wp_set_own | with_reducible apply bodyPost_set_own); (focus (first | (with_reducible apply Own.set; (focus (with_reducible apply hO)); (repeat (first | with_reducible exact Put.here _ _ _ | with_reducible apply Put.there)); done) | (with_reducible apply Own.setRow; (focus (with_reducible apply hO)); (focus (repeat (first | with_reducible exact Put.here _ _ _ | with_reducible apply Put.there))); first | assumption | (simp; omega) | (simp; assumption)) | ((repeat' (first | with_reducible apply hO | with_reducible apply Own.set)); all_goals (repeat (first | with_reducible exact Put.here _ _ _ | with_reducible apply Put.there)); done))))); clear hO; intro w9 hO; (try dsimp only [List.set] at hO); ((try clear hf); have hf := hO.facts; (try simp only [FX, Nat.zero_add, Nat.reduceAdd, and_true, true_and, List.map_cons, List.map_nil, List.cons_append, List.nil_append] at hf))))
  go_ret
  refine ⟨(some ⟨g0, 0, none⟩, c), rfl, ?_⟩
  exact hO.give (by repeat (first | with_reducible exact Takes.nil _ | with_reducible apply Takes.cons | with_reducible exact Pick.here _ _ | with_reducible apply Pick.there)) (by repeat (first | exact Keeps.here _ | apply Keeps.skip))
end Go.Proofs.YtpdnlgopbnkdhaaDoor
namespace Go.Proofs.YtpdnlgopbnkdhaaDoor
open Go.RowKit
set_option maxHeartbeats 1000000 in
set_option maxRecDepth 100000 in
theorem clone_does (g n c : Nat) (l : List ByteArray) (hl : l.length = n) (hn : n ≤ 1000) :
    Does Tryd.prog 59 #[.slice (some ⟨g, 0, none⟩) n c] [Row2 9 1 (some ⟨g, 0, none⟩) n c (l.map .string)]
      (fun x : Option Addr × Nat => (.slice x.1 n x.2, [Row2 9 1 x.1 n x.2 (l.map .string), Row2 9 1 (some ⟨g, 0, none⟩) n c (l.map .string)])) := by
  subst hl
  obtain ⟨iS, hiS, hzS, hsS, hbS⟩ := info_parts Tryd.infoStr
  intro S W w L0 hO; simp only [List.cons_append, List.nil_append] at hO
  ((try clear hf); have hf := hO.facts; (try simp only [FX, Nat.zero_add, Nat.reduceAdd, and_true, true_and, List.map_cons, List.map_nil, List.cons_append, List.nil_append] at hf))
  have hu := Tryd.underlying22
  go_enter Tryd.func59, Tryd.ntmps59
  go_wp2_with (first | (at_builtin; (have hO9 := hO.pick (r := Var _ [] 9) (by repeat (first | with_reducible exact Pick.here _ _ | with_reducible apply Pick.there)); replace hO := Own.varRow (n := 0) (size := 1) rfl (by simp [maxLen]) hO9; clear hO9; refine wpList_append_own2 hO (by repeat (first | with_reducible exact Pick.here _ _ | with_reducible apply Pick.there)) rfl (.tmp 5) (.tmp 6) 22 rfl iS _ 16 Tryd.underlying22 hiS hzS hsS hbS rfl (by omega) rfl g 0 l.length _ (l.map .string) rfl (by simp) (vals_src (hO.vals (xs := l.map .string) (e := 9) (by repeat (first | with_reducible exact Pick.here _ _ | with_reducible apply Pick.there)))) (ones_map (fun _ => rfl) _) (by unfold maxLen; omega) (by omega) ?_; clear hO; intro ka9 kc9 w9 hO; ((try clear hf); have hf := hO.facts; (try simp only [FX, Nat.zero_add, Nat.reduceAdd, and_true, true_and, List.map_cons, List.map_nil, List.cons_append, List.nil_append] at hf)))) | ((first | with_reducible refine wpList_alloc_own hO ?_ | with_reducible refine wpList_drew_own hO ?_ | with_reducible refine wp_alloc_own hO ?_ | with_reducible refine wp_drew_own hO ?_ | with_reducible refine bodyPost_alloc_own hO ?_ | with_reducible refine bodyPost_drew_own hO ?_ | ((first | with_reducible apply wpList_set_own | with_reducible apply wp_set_own | with_reducible apply bodyPost_set_own); (focus (first | (with_reducible apply Own.set; (focus (with_reducible apply hO)); (repeat (first | with_reducible exact Put.here _ _ _ | with_reducible apply Put.there)); done) | (with_reducible apply Own.setRow; (focus (with_reducible apply hO)); (focus (repeat (first | with_reducible exact Put.here _ _ _ | with_reducible apply Put.there))); first | assumption | (simp; omega) | (simp; assumption)) | ((repeat' (first | with_reducible apply hO | with_reducible apply Own.set)); all_goals (repeat (first | with_reducible exact Put.here _ _ _ | with_reducible apply Put.there)); done))))); clear hO; intro w9 hO; (try dsimp only [List.set] at hO); ((try clear hf); have hf := hO.facts; (try simp only [FX, Nat.zero_add, Nat.reduceAdd, and_true, true_and, List.map_cons, List.map_nil, List.cons_append, List.nil_append] at hf))))
  go_ret
  refine ⟨(ka9, kc9), by simp, ?_⟩
  simp only [Nat.zero_add, List.nil_append] at hO
  exact hO.give (by repeat (first | with_reducible exact Takes.nil _ | with_reducible apply Takes.cons | with_reducible exact Pick.here _ _ | with_reducible apply Pick.there)) (by repeat (first | exact Keeps.here _ | apply Keeps.skip))
set_option maxHeartbeats 1000000 in
set_option maxRecDepth 100000 in
theorem mul_any (y : Nat) (w : World) (h1 : y ≤ 1000) : Calls Tryd.prog 92 #[.int .u64 1, .int .u64 y] w fun e w' => e = .returned (.tuple #[.int .u64 0, .int .u64 y]) ∧ w' = w := by
  have b1 : bits .and .u64 1 4294967295 = 1 := by kernel_rfl
  have b2 : bits .and .u64 (y : Int) 4294967295 = (y : Int) := by
    have h := bits_and_u64_nat y 4294967295 (by omega) (by omega)
    have e : (y &&& 4294967295) = y := by
      have := Nat.and_two_pow_sub_one_eq_mod y 32
      have e2 : (2 ^ 32 - 1 : Nat) = 4294967295 := by decide
      rw [e2] at this
      rw [this]; omega
    rw [e] at h
    exact h
  go_enter Tryd.func92, Tryd.ntmps92
  go_wp2
  refine bodyPost_ret (results_tmp2 rfl _ _ _) rfl ⟨?_, rfl⟩
  simp only [IntKind.wrap_u64, Int.one_mul, b1, b2]
  have e1 : ∀ (z : Int), 0 ≤ z → z < 4294967296 → z / 4294967296 = 0 := fun z h h' => by omega
  have e3 : (y : Int) % 18446744073709551616 = y := by omega
  have e4 : (y : Int) / 4294967296 = 0 := by omega
  have b3 : bits .and .u64 0 4294967295 = 0 := by kernel_rfl
  simp [e3, e4, b1, b2, b3]
theorem rep_splice (v e : Value) (n k m : Nat) (hk : k + m ≤ n) : splice (List.replicate k v ++ List.replicate (n - k) e) k (List.replicate m v) = List.replicate (k + m) v ++ List.replicate (n - (k + m)) e := by
  unfold splice
  rw [List.take_append_of_le_length (by simp), List.take_of_length_le (by simp), List.length_replicate, List.drop_append, List.drop_of_length_le (by simp), List.length_replicate, List.nil_append, List.drop_replicate, ← List.append_assoc, List.replicate_append_replicate]
  congr 2; omega
theorem rep_get (v e : Value) (n k m j : Nat) (u : Value) (hm : m ≤ k) (hj : (List.replicate m v)[j]? = some u) : (List.replicate k v ++ List.replicate (n - k) e)[j]? = some u := by
  obtain ⟨h1, h2⟩ := List.getElem?_eq_some_iff.1 hj
  rw [List.length_replicate] at h1
  rw [List.getElem?_append_left (by simp; omega)]
  rw [← hj]
  rw [List.getElem?_replicate, List.getElem?_replicate, if_pos (by omega), if_pos h1]
theorem ones_rep (v : Value) (h : v.oneCell' = true) (m : Nat) : ∀ u ∈ List.replicate m v, u.oneCell' = true := fun u hu => by rw [(List.mem_replicate.1 hu).2]; exact h
def esV : Value := .string ⟨#[]⟩
set_option maxHeartbeats 1000000 in
set_option maxRecDepth 100000 in
theorem repeat_does (g : Nat) (v : ByteArray) (n : Nat) (hn : 1 ≤ n) (hn2 : n ≤ 1000) :
    Does Tryd.prog 57 #[.slice (some ⟨g, 0, none⟩) 1 1, .int .i64 n] [Row2 9 1 (some ⟨g, 0, none⟩) 1 1 [.string v]]
      (fun g' : Nat => (.slice (some ⟨g', 0, none⟩) n n, [Row2 9 1 (some ⟨g', 0, none⟩) n n (List.replicate n (.string v))])) := by
  obtain ⟨iS, hiS, hzS, hsS, hbS⟩ := info_parts Tryd.infoStr
  intro S W w L0 hO; simp only [List.cons_append, List.nil_append] at hO
  ((try clear hf); have hf := hO.facts; (try simp only [FX, Nat.zero_add, Nat.reduceAdd, and_true, true_and, List.map_cons, List.map_nil, List.cons_append, List.nil_append] at hf))
  go_enter Tryd.func57, Tryd.ntmps57
  go_wp2_with (first | (go_at_call 92; (with_reducible refine Own.quiet hO ((mul_any n _ (by omega)).mono (fun e w' h => ⟨h.1, h.2 ▸ Ext.refl _⟩)) ?_; clear hO; intro w9 hx9 hO; clear hx9; dsimp only; ((try clear hf); have hf := hO.facts; (try simp only [FX, Nat.zero_add, Nat.reduceAdd, and_true, true_and, List.map_cons, List.map_nil, List.cons_append, List.nil_append] at hf)))) | (at_make; (refine wpList_make_own4 hO rfl (.tmp 29) (.tmp 29) 22 rfl 9 iS _ 1 Tryd.underlying22 hiS hzS hsS .i64 .i64 _ _ n rfl rfl rfl rfl (by rw [hbS]; omega) (by unfold maxLen; omega) ?_; clear hO; intro g9 w9 hO; rw [Nat.mul_one, madeCells_one rfl] at hO; ((try clear hf); have hf := hO.facts; (try simp only [FX, Nat.zero_add, Nat.reduceAdd, and_true, true_and, List.map_cons, List.map_nil, List.cons_append, List.nil_append] at hf)))) | ((refine wpList_copy_own4 hO (n := n) (xs := List.replicate n (.string ⟨#[]⟩)) (by repeat (first | with_reducible exact Pick.here _ _ | with_reducible apply Pick.there)) rfl (.tmp 31) (.tmp 32) 22 22 rfl Tryd.underlying22 Tryd.sizeStr 0 n _ ⟨g, 0, none⟩ 1 _ rfl rfl [.string v] (Nat.min_eq_left hn).symm (fun j u hj => by rw [add_off]; exact vals_src (hO.vals (xs := [.string v]) (e := 9) (by repeat (first | with_reducible exact Pick.here _ _ | with_reducible apply Pick.there))) j u hj) (by simp; omega) (mem_one rfl) ?_; clear hO; intro w9 hO; ((try clear hf); have hf := hO.facts; (try simp only [FX, Nat.zero_add, Nat.reduceAdd, and_true, true_and, List.map_cons, List.map_nil, List.cons_append, List.nil_append] at hf)))) | ((first | with_reducible refine wpList_alloc_own hO ?_ | with_reducible refine wpList_drew_own hO ?_ | with_reducible refine wp_alloc_own hO ?_ | with_reducible refine wp_drew_own hO ?_ | with_reducible refine bodyPost_alloc_own hO ?_ | with_reducible refine bodyPost_drew_own hO ?_ | ((first | with_reducible apply wpList_set_own | with_reducible apply wp_set_own | with_reducible apply bodyPost_set_own); (focus (first | (with_reducible apply Own.set; (focus (with_reducible apply hO)); (repeat (first | with_reducible exact Put.here _ _ _ | with_reducible apply Put.there)); done) | (with_reducible apply Own.setRow; (focus (with_reducible apply hO)); (focus (repeat (first | with_reducible exact Put.here _ _ _ | with_reducible apply Put.there))); first | assumption | (simp; omega) | (simp; assumption)) | ((repeat' (first | with_reducible apply hO | with_reducible apply Own.set)); all_goals (repeat (first | with_reducible exact Put.here _ _ _ | with_reducible apply Put.there)); done))))); clear hO; intro w9 hO; (try dsimp only [List.set] at hO); ((try clear hf); have hf := hO.facts; (try simp only [FX, Nat.zero_add, Nat.reduceAdd, and_true, true_and, List.map_cons, List.map_nil, List.cons_append, List.nil_append] at hf))))
  have hO9 : Own S W w9 (Row2 9 1 (some ⟨g9, 0, none⟩) n n (List.replicate 1 (.string v) ++ List.replicate (n - 1) (.string ⟨#[]⟩)) :: L0) := by
    have e : splice (List.replicate n (Value.string ⟨#[]⟩)) 0 [.string v] = _ := rep_splice (.string v) (.string ⟨#[]⟩) n 0 1 (by omega)
    simp only [Nat.zero_add] at e
    rw [← e]
    exact hO.cut (by repeat (first | with_reducible apply Sub.cons | with_reducible exact Pick.here _ _ | with_reducible apply Pick.there | with_reducible apply Sub.base | with_reducible exact Keeps.here _ | with_reducible apply Keeps.skip))
  clear hO hf
  go_loopw [8] (fun i wr => ∃ k : Nat, 1 ≤ k ∧ k ≤ n ∧ i = .int .i64 k ∧ Own S W wr (Row2 9 1 (some ⟨g9, 0, none⟩) n n (List.replicate k (.string v) ++ List.replicate (n - k) (.string ⟨#[]⟩)) :: L0)) (fun i _ => n - (intOf i).toNat)
  case atStart => exact ⟨1, by omega, hn, by simp [goInt], hO9⟩
  case round =>
    clear hO9
    obtain ⟨k, hk1, hkn, rfl, hO⟩ := hrel
    rename World => w1
    ((try clear hf); have hf := hO.facts; (try simp only [FX, Nat.zero_add, Nat.reduceAdd, and_true, true_and, List.map_cons, List.map_nil, List.cons_append, List.nil_append] at hf))
    by_cases hlt : k < n
    · have q1 : (0 : Int) ≤ (k : Int) := by omega
      have q2 : (k : Int) ≤ (n : Int) := by omega
      go_wp2_with (first | ((first | with_reducible refine wpList_alloc_own hO ?_ | with_reducible refine wpList_drew_own hO ?_ | with_reducible refine wp_alloc_own hO ?_ | with_reducible refine wp_drew_own hO ?_ | with_reducible refine bodyPost_alloc_own hO ?_ | with_reducible refine bodyPost_drew_own hO ?_ | ((first | with_reducible apply wpList_set_own | with_reducible apply wp_set_own | with_reducible apply bodyPost_set_own); (focus (first | (with_reducible apply Own.set; (focus (with_reducible apply hO)); (repeat (first | with_reducible exact Put.here _ _ _ | with_reducible apply Put.there)); done) | (with_reducible apply Own.setRow; (focus (with_reducible apply hO)); (focus (repeat (first | with_reducible exact Put.here _ _ _ | with_reducible apply Put.there))); first | assumption | (simp; omega) | (simp; assumption)) | ((repeat' (first | with_reducible apply hO | with_reducible apply Own.set)); all_goals (repeat (first | with_reducible exact Put.here _ _ _ | with_reducible apply Put.there)); done))))); clear hO; intro w9 hO; (try dsimp only [List.set] at hO); ((try clear hf); have hf := hO.facts; (try simp only [FX, Nat.zero_add, Nat.reduceAdd, and_true, true_and, List.map_cons, List.map_nil, List.cons_append, List.nil_append] at hf))))
      (refine wp_region_run (fun _ => True) (fun _ _ _ _ => trivial) trivial ((0, 0) :: (0, 1) :: (0, 2) :: (0, 3) :: (0, 4) :: (0, 5) :: (0, 6) :: (5, 7) :: (0, 8) :: (0, 9) :: []) (by kernel_rfl) (by kernel_rfl) rfl (fun _ _ d _ _ h => by cases d <;> exact h) ?_; intro w9 hx9; replace hO := hO.ext hx9; clear hx9; ((try clear hf); have hf := hO.facts; (try simp only [FX, Nat.zero_add, Nat.reduceAdd, and_true, true_and, List.map_cons, List.map_nil, List.cons_append, List.nil_append] at hf)); (repeat (first | (apply inRun_p _ rfl rfl rfl; focus (intro w8 K8 hK8; (repeat (first | go_skip | go_guarded | go_step)); exact hK8)) | (apply inRun_l _ rfl rfl rfl; focus (intro w8 hx8 K8 hK8; have hO := hO.ext hx8; ((try clear hf); have hf := hO.facts; (try simp only [FX, Nat.zero_add, Nat.reduceAdd, and_true, true_and, List.map_cons, List.map_nil, List.cons_append, List.nil_append] at hf)); skip; (repeat (first | go_skip | go_guarded | go_step)); exact hK8)) | (apply inRun_q _ rfl; (focus (intro w8 hx8 K8 hK8; have hO := hO.ext hx8; ((try clear hf); have hf := hO.facts; (try simp only [FX, Nat.zero_add, Nat.reduceAdd, and_true, true_and, List.map_cons, List.map_nil, List.cons_append, List.nil_append] at hf)); (repeat (first | go_skip | go_guarded | go_step | fail)); (first | exact (by repeat (first | exact Ext.refl _ | assumption | refine Ext.of_drew ?_ | refine Ext.alloc ?_ _ | refine Ext.drew ?_ | refine Ext.trans ?_ (by assumption))) | exact hK8 _ (by repeat (first | exact Ext.refl _ | assumption | refine Ext.of_drew ?_ | refine Ext.alloc ?_ _ | refine Ext.drew ?_ | refine Ext.trans ?_ (by assumption)))))); (focus (exact rfl)); intro w8 hx8; replace hO := hO.ext hx8; clear hx8; ((try clear hf); have hf := hO.facts; (try simp only [FX, Nat.zero_add, Nat.reduceAdd, and_true, true_and, List.map_cons, List.map_nil, List.cons_append, List.nil_append] at hf))))))
      refine inRun_d rfl ?_; intro K8 hK8
      refine wpList_copy_own4 hO (by repeat (first | with_reducible exact Pick.here _ _ | with_reducible apply Pick.there)) rfl (.tmp 41) (.tmp 44) 22 22 rfl Tryd.underlying22 Tryd.sizeStr k (n - k) _ ⟨g9, 0, none⟩ k _ rfl rfl (List.replicate (Nat.min k (n - k)) (.string v)) (by simp) (fun j u hj => by rw [add_off]; exact vals_src (hO.vals (e := 9) (by repeat (first | with_reducible exact Pick.here _ _ | with_reducible apply Pick.there))) j u (rep_get _ _ n k _ j u (Nat.min_le_left _ _) hj)) (by rw [List.length_replicate]; have : Nat.min k (n - k) ≤ n - k := Nat.min_le_right _ _; omega) (ones_rep _ rfl _) ?_
      clear hO; intro w9 hO
      go_step; refine hK8 _ _ trivial ?_; clear hK8 K8
      rw [rep_splice _ _ _ _ _ (by have : Nat.min k (n - k) ≤ n - k := Nat.min_le_right _ _; omega)] at hO
      rw [show (goInt (List.replicate (Nat.min k (n - k)) (Value.string v)).length) = .int .i64 ((Nat.min k (n - k) : Nat) : Int) from by simp [goInt]]
      have hm1 : Nat.min k (n - k) ≤ n - k := Nat.min_le_right _ _
      have hm2 : 1 ≤ Nat.min k (n - k) := Nat.le_min.2 ⟨hk1, by omega⟩
      generalize Nat.min k (n - k) = m at *
      (repeat (first | (apply inRun_p _ rfl rfl rfl; focus (intro w8 K8 hK8; (repeat (first | go_skip | go_guarded | go_step)); exact hK8)) | (apply inRun_l _ rfl rfl rfl; focus (intro w8 hx8 K8 hK8; have hO := hO.ext hx8; ((try clear hf); have hf := hO.facts; (try simp only [FX, Nat.zero_add, Nat.reduceAdd, and_true, true_and, List.map_cons, List.map_nil, List.cons_append, List.nil_append] at hf)); skip; (repeat (first | go_skip | go_guarded | go_step)); exact hK8)) | (apply inRun_q _ rfl; (focus (intro w8 hx8 K8 hK8; have hO := hO.ext hx8; ((try clear hf); have hf := hO.facts; (try simp only [FX, Nat.zero_add, Nat.reduceAdd, and_true, true_and, List.map_cons, List.map_nil, List.cons_append, List.nil_append] at hf)); (repeat (first | go_skip | go_guarded | go_step | fail)); (first | exact (by repeat (first | exact Ext.refl _ | assumption | refine Ext.of_drew ?_ | refine Ext.alloc ?_ _ | refine Ext.drew ?_ | refine Ext.trans ?_ (by assumption))) | exact hK8 _ (by repeat (first | exact Ext.refl _ | assumption | refine Ext.of_drew ?_ | refine Ext.alloc ?_ _ | refine Ext.drew ?_ | refine Ext.trans ?_ (by assumption)))))); (focus (exact rfl)); intro w8 hx8; replace hO := hO.ext hx8; clear hx8; ((try clear hf); have hf := hO.facts; (try simp only [FX, Nat.zero_add, Nat.reduceAdd, and_true, true_and, List.map_cons, List.map_nil, List.cons_append, List.nil_append] at hf)))))
      refine inRun_nil ?_
      go_wp2_with (first | ((first | with_reducible refine wpList_alloc_own hO ?_ | with_reducible refine wpList_drew_own hO ?_ | with_reducible refine wp_alloc_own hO ?_ | with_reducible refine wp_drew_own hO ?_ | with_reducible refine bodyPost_alloc_own hO ?_ | with_reducible refine bodyPost_drew_own hO ?_ | ((first | with_reducible apply wpList_set_own | with_reducible apply wp_set_own | with_reducible apply bodyPost_set_own); (focus (first | (with_reducible apply Own.set; (focus (with_reducible apply hO)); (repeat (first | with_reducible exact Put.here _ _ _ | with_reducible apply Put.there)); done) | (with_reducible apply Own.setRow; (focus (with_reducible apply hO)); (focus (repeat (first | with_reducible exact Put.here _ _ _ | with_reducible apply Put.there))); first | assumption | (simp; omega) | (simp; assumption)) | ((repeat' (first | with_reducible apply hO | with_reducible apply Own.set)); all_goals (repeat (first | with_reducible exact Put.here _ _ _ | with_reducible apply Put.there)); done))))); clear hO; intro w9 hO; (try dsimp only [List.set] at hO); ((try clear hf); have hf := hO.facts; (try simp only [FX, Nat.zero_add, Nat.reduceAdd, and_true, true_and, List.map_cons, List.map_nil, List.cons_append, List.nil_append] at hf))))
      refine ⟨⟨k + m, by omega, by omega, by go_num, hO⟩, by simp [intOf]; omega⟩
    · obtain rfl : k = n := by omega
      go_wp2_with (first | ((first | with_reducible refine wpList_alloc_own hO ?_ | with_reducible refine wpList_drew_own hO ?_ | with_reducible refine wp_alloc_own hO ?_ | with_reducible refine wp_drew_own hO ?_ | with_reducible refine bodyPost_alloc_own hO ?_ | with_reducible refine bodyPost_drew_own hO ?_ | ((first | with_reducible apply wpList_set_own | with_reducible apply wp_set_own | with_reducible apply bodyPost_set_own); (focus (first | (with_reducible apply Own.set; (focus (with_reducible apply hO)); (repeat (first | with_reducible exact Put.here _ _ _ | with_reducible apply Put.there)); done) | (with_reducible apply Own.setRow; (focus (with_reducible apply hO)); (focus (repeat (first | with_reducible exact Put.here _ _ _ | with_reducible apply Put.there))); first | assumption | (simp; omega) | (simp; assumption)) | ((repeat' (first | with_reducible apply hO | with_reducible apply Own.set)); all_goals (repeat (first | with_reducible exact Put.here _ _ _ | with_reducible apply Put.there)); done))))); clear hO; intro w9 hO; (try dsimp only [List.set] at hO); ((try clear hf); have hf := hO.facts; (try simp only [FX, Nat.zero_add, Nat.reduceAdd, and_true, true_and, List.map_cons, List.map_nil, List.cons_append, List.nil_append] at hf))))
      go_ret
      refine ⟨g9, rfl, ?_⟩
      simp only [Nat.sub_self, List.replicate_zero, List.append_nil] at hO
      dsimp only
      (try simp only [List.cons_append, List.nil_append])
      exact hO.cut (by repeat (first | with_reducible apply Sub.cons | with_reducible exact Pick.here _ _ | with_reducible apply Pick.there | with_reducible apply Sub.base | with_reducible exact Keeps.here _ | with_reducible apply Keeps.skip))
end Go.Proofs.YtpdnlgopbnkdhaaDoor
namespace Go.Proofs.YtpdnlgopbnkdhaaDoor
open Go.RowKit
def Dk.new (n : Nat) : Dk := ⟨List.replicate n (zeros 96), List.replicate n (zeros 96), [], -1, false⟩
theorem full_none : fullOf ⟨#[]⟩ = zeros 96 := by unfold fullOf; apply ByteArray.ext; simp [zeros]; rfl
set_option maxHeartbeats 1000000 in
set_option maxRecDepth 100000 in
theorem new_does (n : Nat) (h1 : 1 ≤ n) (h2 : n ≤ 200) : Does Tryd.prog 12 #[.int .i64 n] [] (fun p : Nat => (.tuple #[.pointer (some ⟨p, 0, none⟩), .nilIface], [DiskR p (Dk.new n)])) := by
  intro S W w L0 hO; simp only [List.cons_append, List.nil_append] at hO
  go_enter Tryd.func12, Tryd.ntmps12
  go_wp2_with (first | (go_at_call 58; (with_reducible refine Own.quiet hO (full_any _ _ (by decide)) ?_; clear hO; intro w9 hx9 hO; clear hx9; dsimp only; ((try clear hf); have hf := hO.facts; (try simp only [FX, Nat.zero_add, Nat.reduceAdd, and_true, true_and, List.map_cons, List.map_nil, List.cons_append, List.nil_append] at hf)); rw [full_none])) | (go_at_call 57; (have hO9 := hO.pick (r := Var _ [_] 9) (by repeat (first | with_reducible exact Pick.here _ _ | with_reducible apply Pick.there)); replace hO := Own.varRow (n := 1) (size := 1) rfl (by simp [maxLen]) hO9; clear hO9; (go_at_call 57; (with_reducible refine Does.use hO (repeat_does _ _ n h1 (by omega)) (by repeat (first | with_reducible exact Takes.nil _ | with_reducible apply Takes.cons | with_reducible exact Pick.here _ _ | with_reducible apply Pick.there)) ?_; clear hO; intro x9 w9 hO; dsimp only at hO ⊢; simp only [List.cons_append, List.nil_append] at hO; ((try clear hf); have hf := hO.facts; (try simp only [FX, Nat.zero_add, Nat.reduceAdd, and_true, true_and, List.map_cons, List.map_nil, List.cons_append, List.nil_append] at hf)); rw [← List.map_replicate] at hO; ((try clear hf); have hf := hO.facts; (try simp only [FX, Nat.zero_add, Nat.reduceAdd, and_true, true_and, List.map_cons, List.map_nil, List.cons_append, List.nil_append] at hf)))))) | (go_at_call 59; ((go_at_call 59; (with_reducible refine Does.use hO (clone_does _ _ _ (List.replicate n (zeros 96)) (by simp) (by omega)) (by repeat (first | with_reducible exact Takes.nil _ | with_reducible apply Takes.cons | with_reducible exact Pick.here _ _ | with_reducible apply Pick.there)) ?_; clear hO; intro x9 w9 hO; dsimp only at hO ⊢; simp only [List.cons_append, List.nil_append] at hO; ((try clear hf); have hf := hO.facts; (try simp only [FX, Nat.zero_add, Nat.reduceAdd, and_true, true_and, List.map_cons, List.map_nil, List.cons_append, List.nil_append] at hf)); obtain ⟨ka9, kc9⟩ := x9; dsimp only at hO ⊢; ((try clear hf); have hf := hO.facts; (try simp only [FX, Nat.zero_add, Nat.reduceAdd, and_true, true_and, List.map_cons, List.map_nil, List.cons_append, List.nil_append] at hf)))))) | ((first | with_reducible refine wpList_alloc_own hO ?_ | with_reducible refine wpList_drew_own hO ?_ | with_reducible refine wp_alloc_own hO ?_ | with_reducible refine wp_drew_own hO ?_ | with_reducible refine bodyPost_alloc_own hO ?_ | with_reducible refine bodyPost_drew_own hO ?_ | ((first | with_reducible apply wpList_set_own | with_reducible apply wp_set_own | with_reducible apply bodyPost_set_own); (focus (first | (with_reducible apply Own.set; (focus (with_reducible apply hO)); (repeat (first | with_reducible exact Put.here _ _ _ | with_reducible apply Put.there)); done) | (with_reducible apply Own.setRow; (focus (with_reducible apply hO)); (focus (repeat (first | with_reducible exact Put.here _ _ _ | with_reducible apply Put.there))); first | assumption | (simp; omega) | (simp; assumption)) | ((repeat' (first | with_reducible apply hO | with_reducible apply Own.set)); all_goals (repeat (first | with_reducible exact Put.here _ _ _ | with_reducible apply Put.there)); done))))); clear hO; intro w9 hO; (try dsimp only [List.set] at hO); ((try clear hf); have hf := hO.facts; (try simp only [FX, Nat.zero_add, Nat.reduceAdd, and_true, true_and, List.map_cons, List.map_nil, List.cons_append, List.nil_append] at hf))))
  have hO9 := hO.nil 106 2
  clear hO
  have hO := hO9
  go_ret2
  refine ⟨_, rfl, ?_⟩
  (try simp only [List.cons_append, List.nil_append])
  refine Own.toEx ((some ⟨x9, 0, none⟩, n), (ka9, kc9), (none, 0)) (Own.pack ?_)
  simp only [Dk.new, List.length_replicate, List.length_nil, List.flatMap_nil, List.cons_append, List.nil_append]
  exact hO.cut (by repeat (first | with_reducible apply Sub.cons | with_reducible exact Pick.here _ _ | with_reducible apply Pick.there | with_reducible apply Sub.base | with_reducible exact Keeps.here _ | with_reducible apply Keeps.skip))
set_option maxHeartbeats 1000000 in
set_option maxRecDepth 100000 in
theorem new_bad (n : Int) (h : n < 1 ∨ 200 < n) : Does Tryd.prog 12 #[.int .i64 n] [] (fun _ : Unit => (.tuple #[.pointer none, errV 1], [])) := by
  intro S W w L0 hO; simp only [List.cons_append, List.nil_append] at hO
  go_enter Tryd.func12, Tryd.ntmps12
  go_wp2_with fail
  all_goals (first | (exfalso; omega) | (go_ret2; exact ⟨(), rfl, hO⟩))
end Go.Proofs.YtpdnlgopbnkdhaaDoor
namespace Go.Proofs.YtpdnlgopbnkdhaaDoor
open Go.RowKit
/-- A disk that may be. -/
structure DkOk (k j : Nat) (d : Dk) : Prop where
  now : d.now.length = k
  kept : d.kept.length = k
  f1 : -1 ≤ d.fuse
  f2 : d.fuse ≤ 9223372036854775807
  wait : d.wait.length ≤ j
  ats : ∀ t ∈ d.wait, t.1 < k
theorem DkOk.new (k : Nat) : DkOk k 0 (Dk.new k) := ⟨by simp [Dk.new], by simp [Dk.new], by simp [Dk.new], by simp [Dk.new], by simp [Dk.new], by simp [Dk.new]⟩
theorem DkOk.more {k j : Nat} {d : Dk} (h : DkOk k j d) : DkOk k (j + 1) d := ⟨h.now, h.kept, h.f1, h.f2, by have := h.wait; omega, h.ats⟩
theorem DkOk.step {k j : Nat} {d : Dk} (h : DkOk k j d) : DkOk k j d.step.2 := by
  obtain ⟨kept, now, wait, fuse, down⟩ := d
  obtain ⟨h1, h2, h3, h4, h5, h6⟩ := h
  unfold Dk.step
  dsimp only at *
  split
  · exact ⟨h1, h2, h3, h4, h5, h6⟩
  · split
    · exact ⟨h1, h2, by dsimp only; omega, by dsimp only; omega, h5, h6⟩
    · refine ⟨h1, h2, ?_, ?_, h5, h6⟩ <;> (dsimp only; unfold fuseOf; split <;> omega)
theorem step_wait (d : Dk) : d.step.2.wait = d.wait := by
  unfold Dk.step; split
  · rfl
  · split <;> rfl
theorem DkOk.write {k j : Nat} {d : Dk} (h : DkOk k j d) (n : Int) (s : ByteArray) : DkOk k (j + 1) (d.writeR n s).2 := by
  unfold Dk.writeR
  split
  · exact h.more
  · rename_i hb
    split
    · have h' := h.step
      have hn := h.now
      refine ⟨by simp [Dk.write, h'.now], h'.kept, h'.f1, h'.f2, by have := h'.wait; simp [Dk.write]; omega, ?_⟩
      intro t ht
      rcases List.mem_append.1 ht with ht | ht
      · exact h'.ats t ht
      · rw [List.mem_singleton.1 ht]; show n.toNat < k; omega
    · exact h.step.more
theorem DkOk.flush {k j : Nat} {d : Dk} (h : DkOk k j d) : DkOk k j d.flush.2 := by
  unfold Dk.flush
  have h' := h.step
  split
  · exact ⟨h'.now, h'.now, h'.f1, h'.f2, Nat.zero_le _, fun t ht => by cases ht⟩
  · exact h'
theorem DkOk.restart {k j : Nat} {d : Dk} (h : DkOk k j d) (K : Int) : DkOk k j (d.restart K) :=
  ⟨by simp [Dk.restart, keptAfter_length, h.kept], by simp [Dk.restart, keptAfter_length, h.kept], by simp [Dk.restart], by simp [Dk.restart], Nat.zero_le _, fun t ht => by cases ht⟩
theorem DkOk.arm {k j : Nat} {d : Dk} (h : DkOk k j d) (n : Int) (hn : n ≤ 9223372036854775807) : DkOk k j { d with fuse := if n < -1 then -1 else n } :=
  ⟨h.now, h.kept, by dsimp only; split <;> omega, by dsimp only; split <;> omega, h.wait, h.ats⟩
theorem read_code (d : Dk) (n : Int) : (d.read n).2 ≤ 1000 := by
  unfold Dk.read; split
  · simp
  · split <;> simp
theorem write_code (d : Dk) (n : Int) (s : ByteArray) : (d.writeR n s).1 ≤ 1000 := by
  unfold Dk.writeR; split
  · simp
  · split <;> simp
theorem flush_code (d : Dk) : d.flush.1 ≤ 1000 := by
  unfold Dk.flush; split <;> simp
end Go.Proofs.YtpdnlgopbnkdhaaDoor
