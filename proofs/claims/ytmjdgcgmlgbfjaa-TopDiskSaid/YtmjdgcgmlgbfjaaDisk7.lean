/- Package disk: what its law leans on. -/
import Derived.Test.YtmjdgcgmlgbfjaaDisk6
import Derived.Test.YtmjdgcgmlgbfjaaActs
set_option linter.unusedVariables false
set_option linter.unusedSimpArgs false
namespace Go.Proofs.Ytmjdgcgmlgbfjaa
open Go.RowKit
@[go_sem] theorem Try.errAssert (v : Value) (w : World) : (Instr.typeAssert (.iface 84 v) 55 84 true).run Try.prog w = .ok (.tuple #[v, .bool true]) w := by
  simp [Instr.typeAssert, run_underlying Try.underlying84]
set_option maxHeartbeats 1000000 in
set_option maxRecDepth 100000 in
theorem same_any (n f : Nat) (w : World) (hn : n ≤ 1000) (hf : f ≤ 1000) : Calls Try.prog 30 #[errV n, .int .i64 f] w fun e w' => e = .returned (.bool (n == f)) ∧ w' = w := by
  cases n with
  | zero =>
    rw [show errV 0 = .nilIface from rfl]
    go_enter Try.func30, Try.ntmps30
    go_wp2
    go_ret
    refine ⟨ret_bool ?_, rfl⟩
    cases f <;> simp <;> omega
  | succ n =>
    rw [show errV (n + 1) = .iface 84 (.int .i64 ((n + 1 : Nat) : Int)) from rfl]
    generalize hm : n + 1 = m at *
    have hm0 : 0 < m := by omega
    clear hm
    by_cases hmf : m = f
    · subst hmf
      rw [show (m == m) = true from by simp]
      go_enter Try.func30, Try.ntmps30
      go_wp2
      all_goals (go_ret; refine ⟨ret_bool ?_, rfl⟩; simp; try omega)
    · rw [show (m == f) = false from by simpa using hmf]
      have hmf2 : ((m : Int) == (f : Int)) = false := by simp; omega
      go_enter Try.func30, Try.ntmps30
      go_wp2
      all_goals (go_ret; refine ⟨ret_bool ?_, rfl⟩; simp; try omega)
def spinsD : Dk := (((Dk.new 3).writeR 1 ⟨#[120, 121]⟩).2.flush).2.restart 0
set_option maxHeartbeats 1000000 in
set_option maxRecDepth 100000 in
theorem spins_any (w : World) : Calls Try.prog 27 #[] w fun e w' => e = .returned (.bool true) ∧ Ext w w' := by
  have hO := Own.start w (fun _ => False)
  go_enter Try.func27, Try.ntmps27
  have hx : ∃ x : ByteArray, x = (spinsD.read 1).1 ∧ x.size = 96 ∧ (x.extract 0 2).toList = [120, 121] := ⟨_, rfl, by decide, by rw [ByteArray.toList_eq]; decide⟩
  obtain ⟨x, hx1, hx2, hx3⟩ := hx
  have HX := Lib.hid hx1
  clear hx1
  have HSP := Lib.hid (show ((Dk.new 3).writeR 1 ⟨#[120, 121]⟩).2.flush.2.restart 0 = spinsD from rfl)
  have q1 : ((x.size : Int) == 96) = true := by rw [hx2]; rfl
  have q2 : 2 ≤ (x.size : Int) := by omega
  clear hx2
  go_wp2_with (first | (go_at_call 28; (with_reducible refine Does.use hO (new_does 3 (by decide) (by decide)) (by repeat (first | with_reducible exact Takes.nil _ | with_reducible apply Takes.cons | with_reducible exact Pick.here _ _ | with_reducible apply Pick.there)) ?_; clear hO; intro x9 w9 hO; dsimp only at hO ⊢; simp only [List.cons_append, List.nil_append] at hO; ((try clear hf); have hf := hO.facts; (try simp only [Facts_nil, Facts_cons, Var_facts, Row2_facts, RowFree_some, imm_facts, frz_facts, pure_facts, many_facts, BoxF_one, BoxF_cons, Nat.zero_add, Nat.reduceAdd, and_true, true_and, List.map_cons, List.map_nil, List.cons_append, List.nil_append] at hf)))) | (go_at_call 32; (with_reducible refine Does.use hO (write_does _ (Dk.new 3) 1 ⟨#[120, 121]⟩ (by decide) (by decide) (by decide)) (by repeat (first | with_reducible exact Takes.nil _ | with_reducible apply Takes.cons | with_reducible exact Pick.here _ _ | with_reducible apply Pick.there)) ?_; clear hO; intro x9 w9 hO; dsimp only at hO ⊢; simp only [List.cons_append, List.nil_append] at hO; ((try clear hf); have hf := hO.facts; (try simp only [Facts_nil, Facts_cons, Var_facts, Row2_facts, RowFree_some, imm_facts, frz_facts, pure_facts, many_facts, BoxF_one, BoxF_cons, Nat.zero_add, Nat.reduceAdd, and_true, true_and, List.map_cons, List.map_nil, List.cons_append, List.nil_append] at hf)); rw [show ((Dk.new 3).writeR 1 ⟨#[120, 121]⟩).1 = 0 from by decide])) | (go_at_call 36; (with_reducible refine Does.use hO (flush_does _ ((Dk.new 3).writeR 1 ⟨#[120, 121]⟩).2 (by decide) (by decide) (by decide) (by decide)) (by repeat (first | with_reducible exact Takes.nil _ | with_reducible apply Takes.cons | with_reducible exact Pick.here _ _ | with_reducible apply Pick.there)) ?_; clear hO; intro x9 w9 hO; dsimp only at hO ⊢; simp only [List.cons_append, List.nil_append] at hO; ((try clear hf); have hf := hO.facts; (try simp only [Facts_nil, Facts_cons, Var_facts, Row2_facts, RowFree_some, imm_facts, frz_facts, pure_facts, many_facts, BoxF_one, BoxF_cons, Nat.zero_add, Nat.reduceAdd, and_true, true_and, List.map_cons, List.map_nil, List.cons_append, List.nil_append] at hf)); rw [show ((Dk.new 3).writeR 1 ⟨#[120, 121]⟩).2.flush.1 = 0 from by decide])) | (go_at_call 39; (with_reducible refine Does.use hO (restart_does _ ((Dk.new 3).writeR 1 ⟨#[120, 121]⟩).2.flush.2 0 (by decide) (by decide) (by decide) (by decide) (by decide) (by decide)) (by repeat (first | with_reducible exact Takes.nil _ | with_reducible apply Takes.cons | with_reducible exact Pick.here _ _ | with_reducible apply Pick.there)) ?_; clear hO; intro x9 w9 hO; dsimp only at hO ⊢; simp only [List.cons_append, List.nil_append] at hO; ((try clear hf); have hf := hO.facts; (try simp only [Facts_nil, Facts_cons, Var_facts, Row2_facts, RowFree_some, imm_facts, frz_facts, pure_facts, many_facts, BoxF_one, BoxF_cons, Nat.zero_add, Nat.reduceAdd, and_true, true_and, List.map_cons, List.map_nil, List.cons_append, List.nil_append] at hf)); rw [HSP.out] at hO)) | (go_at_call 34; (with_reducible refine Reads.use hO (read_reads _ spinsD 1) (by repeat (first | with_reducible exact Takes.nil _ | with_reducible apply Takes.cons | with_reducible exact Pick.here _ _ | with_reducible apply Pick.there)) ?_; clear hO; intro w9 hx9 hO; clear hx9; dsimp only; ((try clear hf); have hf := hO.facts; (try simp only [Facts_nil, Facts_cons, Var_facts, Row2_facts, RowFree_some, imm_facts, frz_facts, pure_facts, many_facts, BoxF_one, BoxF_cons, Nat.zero_add, Nat.reduceAdd, and_true, true_and, List.map_cons, List.map_nil, List.cons_append, List.nil_append] at hf)); rw [← HX.out, show (spinsD.read 1).2 = 0 from by decide])) | (go_at_call 30; (with_reducible refine Own.quiet hO ((same_any 0 0 _ (by decide) (by decide)).mono (fun e w' h => ⟨h.1, h.2 ▸ Ext.refl _⟩)) ?_; clear hO; intro w9 hx9 hO; clear hx9; dsimp only; ((try clear hf); have hf := hO.facts; (try simp only [Facts_nil, Facts_cons, Var_facts, Row2_facts, RowFree_some, imm_facts, frz_facts, pure_facts, many_facts, BoxF_one, BoxF_cons, Nat.zero_add, Nat.reduceAdd, and_true, true_and, List.map_cons, List.map_nil, List.cons_append, List.nil_append] at hf)))) | (go_at_call 31; (with_reducible refine Reads.use hO (sectors_reads _ spinsD) (by repeat (first | with_reducible exact Takes.nil _ | with_reducible apply Takes.cons | with_reducible exact Pick.here _ _ | with_reducible apply Pick.there)) ?_; clear hO; intro w9 hx9 hO; clear hx9; dsimp only; ((try clear hf); have hf := hO.facts; (try simp only [Facts_nil, Facts_cons, Var_facts, Row2_facts, RowFree_some, imm_facts, frz_facts, pure_facts, many_facts, BoxF_one, BoxF_cons, Nat.zero_add, Nat.reduceAdd, and_true, true_and, List.map_cons, List.map_nil, List.cons_append, List.nil_append] at hf)); rw [show spinsD.now.length = 3 from by decide])) | (with_reducible refine wpList_alloc_own hO ?_; clear hO; intro w9 hO; ((try clear hf); have hf := hO.facts; (try simp only [Facts_nil, Facts_cons, Var_facts, Row2_facts, RowFree_some, imm_facts, frz_facts, pure_facts, many_facts, BoxF_one, BoxF_cons, Nat.zero_add, Nat.reduceAdd, and_true, true_and, List.map_cons, List.map_nil, List.cons_append, List.nil_append] at hf))) | (with_reducible apply wpList_set_own; (focus (first | (with_reducible apply Own.set; (focus (with_reducible apply hO)); (repeat (first | with_reducible exact Put.here _ _ _ | with_reducible apply Put.there)); done) | (with_reducible apply Own.setRow; (focus (with_reducible apply hO)); (focus (repeat (first | with_reducible exact Put.here _ _ _ | with_reducible apply Put.there))); first | assumption | (simp; omega) | (simp; assumption)) | ((repeat' (first | with_reducible apply hO | with_reducible apply Own.set)); all_goals (repeat (first | with_reducible exact Put.here _ _ _ | with_reducible apply Put.there)); done))); clear hO; intro w9 hO; (try dsimp only [List.set] at hO); ((try clear hf); have hf := hO.facts; (try simp only [Facts_nil, Facts_cons, Var_facts, Row2_facts, RowFree_some, imm_facts, frz_facts, pure_facts, many_facts, BoxF_one, BoxF_cons, Nat.zero_add, Nat.reduceAdd, and_true, true_and, List.map_cons, List.map_nil, List.cons_append, List.nil_append] at hf))) | (with_reducible refine wpList_drew_own hO ?_; clear hO; intro w9 hO; ((try clear hf); have hf := hO.facts; (try simp only [Facts_nil, Facts_cons, Var_facts, Row2_facts, RowFree_some, imm_facts, frz_facts, pure_facts, many_facts, BoxF_one, BoxF_cons, Nat.zero_add, Nat.reduceAdd, and_true, true_and, List.map_cons, List.map_nil, List.cons_append, List.nil_append] at hf))) | (with_reducible refine wp_alloc_own hO ?_; clear hO; intro w9 hO; ((try clear hf); have hf := hO.facts; (try simp only [Facts_nil, Facts_cons, Var_facts, Row2_facts, RowFree_some, imm_facts, frz_facts, pure_facts, many_facts, BoxF_one, BoxF_cons, Nat.zero_add, Nat.reduceAdd, and_true, true_and, List.map_cons, List.map_nil, List.cons_append, List.nil_append] at hf))) | (with_reducible apply wp_set_own; (focus (first | (with_reducible apply Own.set; (focus (with_reducible apply hO)); (repeat (first | with_reducible exact Put.here _ _ _ | with_reducible apply Put.there)); done) | (with_reducible apply Own.setRow; (focus (with_reducible apply hO)); (focus (repeat (first | with_reducible exact Put.here _ _ _ | with_reducible apply Put.there))); first | assumption | (simp; omega) | (simp; assumption)) | ((repeat' (first | with_reducible apply hO | with_reducible apply Own.set)); all_goals (repeat (first | with_reducible exact Put.here _ _ _ | with_reducible apply Put.there)); done))); clear hO; intro w9 hO; (try dsimp only [List.set] at hO); ((try clear hf); have hf := hO.facts; (try simp only [Facts_nil, Facts_cons, Var_facts, Row2_facts, RowFree_some, imm_facts, frz_facts, pure_facts, many_facts, BoxF_one, BoxF_cons, Nat.zero_add, Nat.reduceAdd, and_true, true_and, List.map_cons, List.map_nil, List.cons_append, List.nil_append] at hf))) | (with_reducible refine wp_drew_own hO ?_; clear hO; intro w9 hO; ((try clear hf); have hf := hO.facts; (try simp only [Facts_nil, Facts_cons, Var_facts, Row2_facts, RowFree_some, imm_facts, frz_facts, pure_facts, many_facts, BoxF_one, BoxF_cons, Nat.zero_add, Nat.reduceAdd, and_true, true_and, List.map_cons, List.map_nil, List.cons_append, List.nil_append] at hf))) | (with_reducible refine bodyPost_alloc_own hO ?_; clear hO; intro w9 hO; ((try clear hf); have hf := hO.facts; (try simp only [Facts_nil, Facts_cons, Var_facts, Row2_facts, RowFree_some, imm_facts, frz_facts, pure_facts, many_facts, BoxF_one, BoxF_cons, Nat.zero_add, Nat.reduceAdd, and_true, true_and, List.map_cons, List.map_nil, List.cons_append, List.nil_append] at hf))) | (with_reducible apply bodyPost_set_own; (focus (first | (with_reducible apply Own.set; (focus (with_reducible apply hO)); (repeat (first | with_reducible exact Put.here _ _ _ | with_reducible apply Put.there)); done) | (with_reducible apply Own.setRow; (focus (with_reducible apply hO)); (focus (repeat (first | with_reducible exact Put.here _ _ _ | with_reducible apply Put.there))); first | assumption | (simp; omega) | (simp; assumption)) | ((repeat' (first | with_reducible apply hO | with_reducible apply Own.set)); all_goals (repeat (first | with_reducible exact Put.here _ _ _ | with_reducible apply Put.there)); done))); clear hO; intro w9 hO; (try dsimp only [List.set] at hO); ((try clear hf); have hf := hO.facts; (try simp only [Facts_nil, Facts_cons, Var_facts, Row2_facts, RowFree_some, imm_facts, frz_facts, pure_facts, many_facts, BoxF_one, BoxF_cons, Nat.zero_add, Nat.reduceAdd, and_true, true_and, List.map_cons, List.map_nil, List.cons_append, List.nil_append] at hf))) | (with_reducible refine bodyPost_drew_own hO ?_; clear hO; intro w9 hO; ((try clear hf); have hf := hO.facts; (try simp only [Facts_nil, Facts_cons, Var_facts, Row2_facts, RowFree_some, imm_facts, frz_facts, pure_facts, many_facts, BoxF_one, BoxF_cons, Nat.zero_add, Nat.reduceAdd, and_true, true_and, List.map_cons, List.map_nil, List.cons_append, List.nil_append] at hf))))
  go_ret
  exact ⟨rfl, hO.toExt⟩
/-- A disk that may be. -/
structure DkOk (k j : Nat) (d : Dk) : Prop where
  now : d.now.length = k
  kept : d.kept.length = k
  f1 : -1 ≤ d.fuse
  f2 : d.fuse ≤ 9223372036854775807
  wait : d.wait.length ≤ j
  ats : ∀ t ∈ d.wait, t.1 < k
theorem DkOk.new (k : Nat) : DkOk k 0 (Dk.new k) := ⟨by simp [Dk.new], by simp [Dk.new], by simp [Dk.new], by simp [Dk.new], by simp [Dk.new], by simp [Dk.new]⟩
theorem DkOk.more {k j : Nat} {d : Dk} (h : DkOk k j d) : DkOk k (j + 1) d := ⟨h.now, h.kept, h.f1, h.f2, by have := h.wait; omega, h.ats⟩
theorem DkOk.step {k j : Nat} {d : Dk} (h : DkOk k j d) : DkOk k j d.step.2 := by
  obtain ⟨kept, now, wait, fuse, down⟩ := d
  obtain ⟨h1, h2, h3, h4, h5, h6⟩ := h
  unfold Dk.step
  dsimp only at *
  split
  · exact ⟨h1, h2, h3, h4, h5, h6⟩
  · split
    · exact ⟨h1, h2, by dsimp only; omega, by dsimp only; omega, h5, h6⟩
    · refine ⟨h1, h2, ?_, ?_, h5, h6⟩ <;> (dsimp only; unfold fuseOf; split <;> omega)
theorem step_wait (d : Dk) : d.step.2.wait = d.wait := by
  unfold Dk.step; split
  · rfl
  · split <;> rfl
theorem DkOk.write {k j : Nat} {d : Dk} (h : DkOk k j d) (n : Int) (s : ByteArray) : DkOk k (j + 1) (d.writeR n s).2 := by
  unfold Dk.writeR
  split
  · exact h.more
  · rename_i hb
    split
    · have h' := h.step
      have hn := h.now
      refine ⟨by simp [Dk.write, h'.now], h'.kept, h'.f1, h'.f2, by have := h'.wait; simp [Dk.write]; omega, ?_⟩
      intro t ht
      rcases List.mem_append.1 ht with ht | ht
      · exact h'.ats t ht
      · rw [List.mem_singleton.1 ht]; show n.toNat < k; omega
    · exact h.step.more
theorem DkOk.flush {k j : Nat} {d : Dk} (h : DkOk k j d) : DkOk k j d.flush.2 := by
  unfold Dk.flush
  have h' := h.step
  split
  · exact ⟨h'.now, h'.now, h'.f1, h'.f2, Nat.zero_le _, fun t ht => by cases ht⟩
  · exact h'
theorem DkOk.restart {k j : Nat} {d : Dk} (h : DkOk k j d) (K : Int) : DkOk k j (d.restart K) :=
  ⟨by simp [Dk.restart, keptAfter_length, h.kept], by simp [Dk.restart, keptAfter_length, h.kept], by simp [Dk.restart], by simp [Dk.restart], Nat.zero_le _, fun t ht => by cases ht⟩
theorem DkOk.arm {k j : Nat} {d : Dk} (h : DkOk k j d) (n : Int) (hn : n ≤ 9223372036854775807) : DkOk k j { d with fuse := if n < -1 then -1 else n } :=
  ⟨h.now, h.kept, by dsimp only; split <;> omega, by dsimp only; split <;> omega, h.wait, h.ats⟩
theorem read_code (d : Dk) (n : Int) : (d.read n).2 ≤ 1000 := by
  unfold Dk.read; split
  · simp
  · split <;> simp
theorem write_code (d : Dk) (n : Int) (s : ByteArray) : (d.writeR n s).1 ≤ 1000 := by
  unfold Dk.writeR; split
  · simp
  · split <;> simp
theorem flush_code (d : Dk) : d.flush.1 ≤ 1000 := by
  unfold Dk.flush; split <;> simp
theorem agree_up {w w' : World} (h : ∀ b, b < w.heap.size → w'.heap[b]? = w.heap[b]?) (a : Addr) (v : Value) (hc : w.cell? a = some v) : w'.cell? a = some v := by
  have hb : a.block < w.heap.size := by
    unfold World.cell? at hc
    split at hc
    · rename_i he; exact (Array.getElem?_eq_some_iff.1 he).1
    · cases hc
  rw [World.cell?_of_block (w := w) (h _ hb)]; exact hc
theorem AcAt.up {w w' : World} {b off : Nat} {x : Ac} (h : AcAt w b off x) (hx : ∀ a v, w.cell? a = some v → w'.cell? a = some v) : AcAt w' b off x :=
  ⟨hx _ _ h.1, hx _ _ h.2, hx _ _ h.3, hx _ _ h.4, hx _ _ h.5, hx _ _ h.6, hx _ _ h.7, hx _ _ h.8, hx _ _ h.9⟩
theorem ChangesAt.up {w w' : World} {a : Option Addr} {l : List Ch} (h : ChangesAt w a l) (hx : ∀ a v, w.cell? a = some v → w'.cell? a = some v) : ChangesAt w' a l :=
  h.imp id fun ⟨b, off, ha, hc⟩ => ⟨b, off, ha, fun i hi => ⟨hx _ _ (hc i hi).1, hx _ _ (hc i hi).2.1, hx _ _ (hc i hi).2.2⟩⟩
theorem SpansAt.up {w w' : World} {a : Option Addr} {l : List Sp} (h : SpansAt w a l) (hx : ∀ a v, w.cell? a = some v → w'.cell? a = some v) : SpansAt w' a l :=
  h.imp id fun ⟨b, off, ha, hc⟩ => ⟨b, off, ha, fun i hi => ⟨hx _ _ (hc i hi).1, hx _ _ (hc i hi).2⟩⟩
theorem ActsAt.up {w w' : World} {a : Option Addr} {l : List Ac} (h : ActsAt w a l) (hx : ∀ a v, w.cell? a = some v → w'.cell? a = some v) : ActsAt w' a l :=
  ⟨h.1.imp id fun ⟨b, off, ha, hc⟩ => ⟨b, off, ha, fun i hi => (hc i hi).up hx⟩, fun x hm => ⟨(h.2 x hm).1, (h.2 x hm).2.1.up hx, (h.2 x hm).2.2.1.up hx, (h.2 x hm).2.2.2⟩⟩
theorem acts_base {W : World} {a : Option Addr} {l : List Ac} (hs : ActsAt W a l) : Own (fun _ => False) W W [.imm fun w => ActsAt w a l] :=
  Own.base W _ fun w' hw' => hs.up (agree_up hw')
theorem rdisk_down {q : Nat} {d : Dk} {w : World} (h : (RDiskR q d).facts w) : w.cell? ⟨q, 4, none⟩ = some (.bool d.down) := by
  obtain ⟨x, h⟩ := h
  exact h.1.1.2.2.2.2
end Go.Proofs.Ytmjdgcgmlgbfjaa
