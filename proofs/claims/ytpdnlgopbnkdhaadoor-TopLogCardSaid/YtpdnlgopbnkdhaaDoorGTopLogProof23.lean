/- Texts Log7, Log8 of this claim, laid together. -/
import Derived.Test.YtpdnlgopbnkdhaaDoorGTopLogProof22
set_option linter.unusedVariables false
set_option linter.unusedSimpArgs false
namespace Go.Proofs.YtpdnlgopbnkdhaaDoor
open Go.RowKit
theorem DkOk.lays {k : Nat} : ∀ (ws : List (Nat × ByteArray)) (j : Nat) (d : Dk), DkOk k j d → DkOk k (j + ws.length) (d.lays ws).2
  | [], j, d, h => h
  | t :: ws, j, d, h => by
    have h1 := h.write t.1 t.2
    have h2 := DkOk.lays ws (j + 1) _ h1
    rw [Dk.lays, List.length_cons]
    split
    · rwa [show j + (ws.length + 1) = j + 1 + ws.length from by omega]
    · exact ⟨h1.now, h1.kept, h1.f1, h1.f2, by have := h1.wait; omega, h1.ats⟩
theorem lays_code {k : Nat} : ∀ (ws : List (Nat × ByteArray)) (j : Nat) (d : Dk), DkOk k j d → (∀ t ∈ ws, t.1 < k ∧ t.2.size ≤ 96) → (d.lays ws).1 = 0 ∨ (d.lays ws).1 = 10
  | [], j, d, h, _ => .inl rfl
  | t :: ws, j, d, h, hw => by
    have ht := hw t (List.mem_cons_self ..)
    rw [Dk.lays]
    split
    · exact lays_code ws (j + 1) _ (h.write t.1 t.2) fun x hx => hw x (List.mem_cons_of_mem _ hx)
    · rename_i hne
      rcases write_code2 (d := d) (n := t.1) (s := t.2) (by rw [h.now]; exact ht.1) ht.2 with h0 | h0
      · exact absurd h0 hne
      · exact .inr h0
theorem lws_len (frm many first u : Nat) (C : List Ch) : (lws frm many first u C).length ≤ C.length + 1 := by
  have e : ∀ (C : List Ch) (p n : Nat), (ows p n C).length = C.length := fun C => by
    induction C with
    | nil => intro p n; rfl
    | cons c C ih => intro p n; rw [ows, List.length_cons, List.length_cons, ih]
  unfold lws
  rw [List.length_append, e]
  split <;> simp
theorem flush_code2 (d : Dk) : d.flush.1 = 0 ∨ d.flush.1 = 10 := by
  unfold Dk.flush
  split
  · exact .inl rfl
  · exact .inr rfl
section
variable {d d1 d2 d3 : Dk} {frm many first u : Nat} {C : List Ch}
theorem addD_0 (h : (d.lays (lws frm many first u C)).1 ≠ 0) : d.addD frm many first u C = d.lays (lws frm many first u C) := by unfold Dk.addD; rw [if_neg h]
theorem addD_1 (h : d.lays (lws frm many first u C) = (0, d1)) (h1 : d1.flush.1 ≠ 0) : d.addD frm many first u C = d1.flush := by
  unfold Dk.addD; rw [h]; dsimp only; rw [if_pos rfl, if_neg h1]
theorem addD_2 (h : d.lays (lws frm many first u C) = (0, d1)) (h1 : d1.flush = (0, d2)) (h2 : (d2.writeR ((frm + (u + C.length) : Nat) : Int) (secB 99 (first + (u + C.length)) (four C.length))).1 ≠ 0) :
    d.addD frm many first u C = d2.writeR ((frm + (u + C.length) : Nat) : Int) (secB 99 (first + (u + C.length)) (four C.length)) := by
  unfold Dk.addD; rw [h]; dsimp only; rw [if_pos rfl, h1]; dsimp only; rw [if_pos rfl, if_neg h2]
theorem addD_3 (h : d.lays (lws frm many first u C) = (0, d1)) (h1 : d1.flush = (0, d2)) (h2 : d2.writeR ((frm + (u + C.length) : Nat) : Int) (secB 99 (first + (u + C.length)) (four C.length)) = (0, d3)) :
    d.addD frm many first u C = d3.flush := by
  unfold Dk.addD; rw [h]; dsimp only; rw [if_pos rfl, h1]; dsimp only; rw [if_pos rfl, h2]; dsimp only; rw [if_pos rfl]
end
set_option maxHeartbeats 4000000 in
set_option maxRecDepth 100000 in
theorem add1_does (bl bc p q : Nat) (d : Dk) (k j : Nat) (frm many first u : Nat) (a : Option Addr) (n cap : Nat) (C : List Ch) (hD : DkOk k j d) (hj : j ≤ 900000) (hC : C.length = n) (hn : n ≤ 12) (hok : ∀ c ∈ C, ChOk c)
    (hu : u + n + 1 ≤ many) (hlen : frm + many ≤ k) (hk : k ≤ 1000) (hfi : first ≤ 10000000) {φ : World → Prop} (hφ : ∀ w, φ w → LibOk w ∧ ValsAt w a (chs C)) :
    Does Tryd.prog 70 #[.pointer (some ⟨bl, 0, none⟩), .pointer (some ⟨bc, 0, none⟩)] [Var bl [.pointer (some ⟨q, 0, none⟩)] 32, Var bc [.slice a n cap] 44, Var q [.pointer (some ⟨p, 0, none⟩), .int .i64 frm, .int .i64 many, .int .i64 first, .int .i64 u] 108, DiskR p d, .imm φ]
      (fun _ : Unit => (errV (d.lays (lws frm many first u C)).1, [Var bl [.pointer (some ⟨q, 0, none⟩)] 32, Var bc [.slice a n cap] 44, Var q [.pointer (some ⟨p, 0, none⟩), .int .i64 frm, .int .i64 many, .int .i64 first, .int .i64 u] 108, DiskR p (d.lays (lws frm many first u C)).2, .imm φ])) := by
  have HL := lay_does p q d k j frm many first u a n cap C hD hj hC hn hok hu hlen hk hfi hφ
  generalize d.lays (lws frm many first u C) = r at *
  obtain ⟨rc, e⟩ := r
  dsimp only at HL ⊢
  intro S W w L0 hO
  simp only [List.cons_append, List.nil_append] at hO
  ((try clear hf); have hf := hO.facts; (try simp only [FX, Nat.zero_add, Nat.reduceAdd, and_true, true_and, List.map_cons, List.map_nil, List.cons_append, List.nil_append] at hf))
  go_enter Tryd.func70, Tryd.ntmps70
  go_wp2_with (first | (go_at_call 71; (with_reducible refine Does.use hO (HL) (by repeat (first | with_reducible exact Takes.nil _ | with_reducible apply Takes.cons | with_reducible exact Pick.here _ _ | with_reducible apply Pick.there)) ?_; clear hO; intro x9 w9 hO; dsimp only at hO ⊢; simp only [List.cons_append, List.nil_append] at hO; ((try clear hf); have hf := hO.facts; (try simp only [FX, Nat.zero_add, Nat.reduceAdd, and_true, true_and, List.map_cons, List.map_nil, List.cons_append, List.nil_append] at hf)))) | ((first | with_reducible refine wpList_alloc_own hO ?_ | with_reducible refine wpList_drew_own hO ?_ | with_reducible refine wp_alloc_own hO ?_ | with_reducible refine wp_drew_own hO ?_ | with_reducible refine bodyPost_alloc_own hO ?_ | with_reducible refine bodyPost_drew_own hO ?_ | ((first | with_reducible apply wpList_set_own | with_reducible apply wp_set_own | with_reducible apply bodyPost_set_own); (focus (first | (with_reducible apply Own.set; (focus (with_reducible apply hO)); (repeat (first | with_reducible exact Put.here _ _ _ | with_reducible apply Put.there)); done) | (with_reducible apply Own.setRow; (focus (with_reducible apply hO)); (focus (repeat (first | with_reducible exact Put.here _ _ _ | with_reducible apply Put.there))); first | assumption | (simp; omega) | (simp; assumption)) | ((repeat' (first | with_reducible apply hO | with_reducible apply Own.set)); all_goals (repeat (first | with_reducible exact Put.here _ _ _ | with_reducible apply Put.there)); done))))); clear hO; intro w9 hO; (try dsimp only [List.set] at hO); ((try clear hf); have hf := hO.facts; (try simp only [FX, Nat.zero_add, Nat.reduceAdd, and_true, true_and, List.map_cons, List.map_nil, List.cons_append, List.nil_append] at hf))))
  go_ret
  exact ⟨(), rfl, hO.give (by repeat (first | with_reducible exact Takes.nil _ | with_reducible apply Takes.cons | with_reducible exact Pick.here _ _ | with_reducible apply Pick.there)) (by repeat (first | exact Keeps.here _ | apply Keeps.skip))⟩
set_option maxHeartbeats 4000000 in
set_option maxRecDepth 100000 in
theorem add2_does (bl be bc p q : Nat) (d : Dk) (k j : Nat) (frm many first u : Nat) (a : Option Addr) (n cap : Nat) (hD : DkOk k j d) (hj : j ≤ 900000) (hn : n ≤ 12)
    (hu : u + n + 1 ≤ many) (hlen : frm + many ≤ k) (hk : k ≤ 1000) (hfi : first ≤ 10000000) :
    Does Tryd.prog 73 #[.pointer (some ⟨bl, 0, none⟩), .pointer (some ⟨be, 0, none⟩), .pointer (some ⟨bc, 0, none⟩)] [Var bl [.pointer (some ⟨q, 0, none⟩)] 32, Var be [.int .i64 ((u : Int) + n)] 3, Var bc [.slice a n cap] 44, Var q [.pointer (some ⟨p, 0, none⟩), .int .i64 frm, .int .i64 many, .int .i64 first, .int .i64 u] 108, DiskR p d]
      (fun _ : Unit => (errV (d.writeR ((frm + (u + n) : Nat) : Int) (secB 99 (first + (u + n)) (four n))).1, [Var bl [.pointer (some ⟨q, 0, none⟩)] 32, Var be [.int .i64 ((u : Int) + n)] 3, Var bc [.slice a n cap] 44, Var q [.pointer (some ⟨p, 0, none⟩), .int .i64 frm, .int .i64 many, .int .i64 first, .int .i64 u] 108, DiskR p (d.writeR ((frm + (u + n) : Nat) : Int) (secB 99 (first + (u + n)) (four n))).2])) := by
  have HF := fun w => four_any n w (by omega)
  have h4 := four_size n
  have HT := fun w => text_any 99 (first + (u + n)) (four n) w (.inr rfl) (by omega) (by omega)
  rw [show UInt8.ofNat (99 : Int).toNat = 99 from rfl, show ((first + (u + n) : Nat) : Int) = (first : Int) + ((u : Int) + n) from by omega] at HT
  have HW := write_does p d ((frm + (u + n) : Nat) : Int) (secB 99 (first + (u + n)) (four n)) hD.f1 hD.f2 (by have := hD.wait; omega)
  generalize secB 99 (first + (u + n)) (four n) = z at *
  generalize four n = y at *
  rw [show ((frm + (u + n) : Nat) : Int) = (frm : Int) + ((u : Int) + n) from by omega] at HW ⊢
  generalize d.writeR ((frm : Int) + ((u : Int) + n)) z = r at *
  obtain ⟨rc, e⟩ := r
  dsimp only at HW ⊢
  intro S W w L0 hO
  simp only [List.cons_append, List.nil_append] at hO
  ((try clear hf); have hf := hO.facts; (try simp only [FX, Nat.zero_add, Nat.reduceAdd, and_true, true_and, List.map_cons, List.map_nil, List.cons_append, List.nil_append] at hf))
  go_enter Tryd.func73, Tryd.ntmps73
  go_wp2_with (first | ((first | with_reducible refine wpList_alloc_own hO ?_ | with_reducible refine wpList_drew_own hO ?_ | with_reducible refine wp_alloc_own hO ?_ | with_reducible refine wp_drew_own hO ?_ | with_reducible refine bodyPost_alloc_own hO ?_ | with_reducible refine bodyPost_drew_own hO ?_ | ((first | with_reducible apply wpList_set_own | with_reducible apply wp_set_own | with_reducible apply bodyPost_set_own); (focus (first | (with_reducible apply Own.set; (focus (with_reducible apply hO)); (repeat (first | with_reducible exact Put.here _ _ _ | with_reducible apply Put.there)); done) | (with_reducible apply Own.setRow; (focus (with_reducible apply hO)); (focus (repeat (first | with_reducible exact Put.here _ _ _ | with_reducible apply Put.there))); first | assumption | (simp; omega) | (simp; assumption)) | ((repeat' (first | with_reducible apply hO | with_reducible apply Own.set)); all_goals (repeat (first | with_reducible exact Put.here _ _ _ | with_reducible apply Put.there)); done))))); clear hO; intro w9 hO; (try dsimp only [List.set] at hO); ((try clear hf); have hf := hO.facts; (try simp only [FX, Nat.zero_add, Nat.reduceAdd, and_true, true_and, List.map_cons, List.map_nil, List.cons_append, List.nil_append] at hf))))
  (refine wp_region_run (fun _ => True) (fun _ _ _ _ => trivial) trivial ((1, 0) :: (0, 1) :: (0, 2) :: (1, 3) :: (1, 4) :: (0, 5) :: (0, 6) :: (1, 7) :: (1, 8) :: (0, 9) :: (1, 10) :: (0, 11) :: (0, 12) :: (1, 13) :: (1, 14) :: (0, 15) :: (1, 16) :: (1, 17) :: (3, 18) :: (3, 19) :: (5, 20) :: (0, 21) :: []) (by kernel_rfl) (by kernel_rfl) rfl (fun _ _ d _ _ h => by cases d <;> exact h) ?_; intro w9 hx9; replace hO := hO.ext hx9; clear hx9; ((try clear hf); have hf := hO.facts; (try simp only [FX, Nat.zero_add, Nat.reduceAdd, and_true, true_and, List.map_cons, List.map_nil, List.cons_append, List.nil_append] at hf)); (repeat (first | (apply inRun_p _ rfl rfl rfl; focus (intro w8 K8 hK8; (repeat (first | go_skip | go_guarded | go_step)); exact hK8)) | (apply inRun_l _ rfl rfl rfl; focus (intro w8 hx8 K8 hK8; have hO := hO.ext hx8; ((try clear hf); have hf := hO.facts; (try simp only [FX, Nat.zero_add, Nat.reduceAdd, and_true, true_and, List.map_cons, List.map_nil, List.cons_append, List.nil_append] at hf)); skip; (repeat (first | go_skip | go_guarded | go_step)); exact hK8)) | (apply inRun_q _ rfl; (focus (intro w8 hx8 K8 hK8; have hO := hO.ext hx8; ((try clear hf); have hf := hO.facts; (try simp only [FX, Nat.zero_add, Nat.reduceAdd, and_true, true_and, List.map_cons, List.map_nil, List.cons_append, List.nil_append] at hf)); (repeat (first | go_skip | go_guarded | go_step | (first | (go_at_call 63; (with_reducible refine Calls.mono (HF _) ?_; rintro e7 w7 ⟨rfl, hx7⟩; dsimp only)) | (go_at_call 74; (with_reducible refine Calls.mono (HT _) ?_; rintro e7 w7 ⟨rfl, hx7⟩; dsimp only))))); (first | exact (by repeat (first | exact Ext.refl _ | assumption | refine Ext.of_drew ?_ | refine Ext.alloc ?_ _ | refine Ext.drew ?_ | refine Ext.trans ?_ (by assumption))) | exact hK8 _ (by repeat (first | exact Ext.refl _ | assumption | refine Ext.of_drew ?_ | refine Ext.alloc ?_ _ | refine Ext.drew ?_ | refine Ext.trans ?_ (by assumption)))))); (focus (exact rfl)); intro w8 hx8; replace hO := hO.ext hx8; clear hx8; ((try clear hf); have hf := hO.facts; (try simp only [FX, Nat.zero_add, Nat.reduceAdd, and_true, true_and, List.map_cons, List.map_nil, List.cons_append, List.nil_append] at hf))))))
  (refine inRun_d rfl ?_; intro K8 hK8; (repeat (first | go_skip | go_guarded | go_step)); (go_at_call 13; (with_reducible refine Does.use hO (HW) (by repeat (first | with_reducible exact Takes.nil _ | with_reducible apply Takes.cons | with_reducible exact Pick.here _ _ | with_reducible apply Pick.there)) ?_; clear hO; intro x9 w9 hO; dsimp only at hO ⊢; simp only [List.cons_append, List.nil_append] at hO; ((try clear hf); have hf := hO.facts; (try simp only [FX, Nat.zero_add, Nat.reduceAdd, and_true, true_and, List.map_cons, List.map_nil, List.cons_append, List.nil_append] at hf)))); (repeat go_step); refine hK8 _ _ trivial ?_; clear hK8 K8)
  (repeat (first | (apply inRun_p _ rfl rfl rfl; focus (intro w8 K8 hK8; (repeat (first | go_skip | go_guarded | go_step)); exact hK8)) | (apply inRun_l _ rfl rfl rfl; focus (intro w8 hx8 K8 hK8; have hO := hO.ext hx8; ((try clear hf); have hf := hO.facts; (try simp only [FX, Nat.zero_add, Nat.reduceAdd, and_true, true_and, List.map_cons, List.map_nil, List.cons_append, List.nil_append] at hf)); skip; (repeat (first | go_skip | go_guarded | go_step)); exact hK8)) | (apply inRun_q _ rfl; (focus (intro w8 hx8 K8 hK8; have hO := hO.ext hx8; ((try clear hf); have hf := hO.facts; (try simp only [FX, Nat.zero_add, Nat.reduceAdd, and_true, true_and, List.map_cons, List.map_nil, List.cons_append, List.nil_append] at hf)); (repeat (first | go_skip | go_guarded | go_step | fail)); (first | exact (by repeat (first | exact Ext.refl _ | assumption | refine Ext.of_drew ?_ | refine Ext.alloc ?_ _ | refine Ext.drew ?_ | refine Ext.trans ?_ (by assumption))) | exact hK8 _ (by repeat (first | exact Ext.refl _ | assumption | refine Ext.of_drew ?_ | refine Ext.alloc ?_ _ | refine Ext.drew ?_ | refine Ext.trans ?_ (by assumption)))))); (focus (exact rfl)); intro w8 hx8; replace hO := hO.ext hx8; clear hx8; ((try clear hf); have hf := hO.facts; (try simp only [FX, Nat.zero_add, Nat.reduceAdd, and_true, true_and, List.map_cons, List.map_nil, List.cons_append, List.nil_append] at hf)))))
  refine inRun_nil ?_
  go_wp2_with (first | ((first | with_reducible refine wpList_alloc_own hO ?_ | with_reducible refine wpList_drew_own hO ?_ | with_reducible refine wp_alloc_own hO ?_ | with_reducible refine wp_drew_own hO ?_ | with_reducible refine bodyPost_alloc_own hO ?_ | with_reducible refine bodyPost_drew_own hO ?_ | ((first | with_reducible apply wpList_set_own | with_reducible apply wp_set_own | with_reducible apply bodyPost_set_own); (focus (first | (with_reducible apply Own.set; (focus (with_reducible apply hO)); (repeat (first | with_reducible exact Put.here _ _ _ | with_reducible apply Put.there)); done) | (with_reducible apply Own.setRow; (focus (with_reducible apply hO)); (focus (repeat (first | with_reducible exact Put.here _ _ _ | with_reducible apply Put.there))); first | assumption | (simp; omega) | (simp; assumption)) | ((repeat' (first | with_reducible apply hO | with_reducible apply Own.set)); all_goals (repeat (first | with_reducible exact Put.here _ _ _ | with_reducible apply Put.there)); done))))); clear hO; intro w9 hO; (try dsimp only [List.set] at hO); ((try clear hf); have hf := hO.facts; (try simp only [FX, Nat.zero_add, Nat.reduceAdd, and_true, true_and, List.map_cons, List.map_nil, List.cons_append, List.nil_append] at hf))))
  go_ret
  exact ⟨(), rfl, hO.give (by repeat (first | with_reducible exact Takes.nil _ | with_reducible apply Takes.cons | with_reducible exact Pick.here _ _ | with_reducible apply Pick.there)) (by repeat (first | exact Keeps.here _ | apply Keeps.skip))⟩
/-- How far a deed was added. -/
def stg (d : Dk) (frm many first u : Nat) (C : List Ch) : Nat → Dk → Prop
  | 0, e => e = d
  | 1, e => d.lays (lws frm many first u C) = (0, e)
  | 2, e => ∃ d1, d.lays (lws frm many first u C) = (0, d1) ∧ d1.flush = (0, e)
  | 3, e => ∃ d1 d2, d.lays (lws frm many first u C) = (0, d1) ∧ d1.flush = (0, d2) ∧ d2.writeR ((frm + (u + C.length) : Nat) : Int) (secB 99 (first + (u + C.length)) (four C.length)) = (0, e)
  | 4, e => d.addD frm many first u C = (0, e)
  | _, _ => False
def usedA (c u n : Nat) : Nat := if c = 0 then u + n + 1 else u
set_option maxHeartbeats 4000000 in
set_option maxRecDepth 100000 in
theorem add_does (p q : Nat) (d : Dk) (k j : Nat) (frm many first u : Nat) (a : Option Addr) (n cap : Nat) (C : List Ch) (hD : DkOk k j d) (hj : j ≤ 800000) (hC : C.length = n) (hn : n ≤ 12) (hok : ∀ c ∈ C, ChOk c)
    (hu : u + n + 1 ≤ many) (hlen : frm + many ≤ k) (hk : k ≤ 1000) (hfi : first ≤ 10000000) {φ : World → Prop} (hφ : ∀ w, φ w → LibOk w ∧ ValsAt w a (chs C)) :
    Does Tryd.prog 23 #[.pointer (some ⟨q, 0, none⟩), .slice a n cap] [Var q [.pointer (some ⟨p, 0, none⟩), .int .i64 frm, .int .i64 many, .int .i64 first, .int .i64 u] 108, DiskR p d, .imm φ]
      (fun _ : Unit => (errV (d.addD frm many first u C).1, [Var q [.pointer (some ⟨p, 0, none⟩), .int .i64 frm, .int .i64 many, .int .i64 first, .int .i64 (usedA (d.addD frm many first u C).1 u n : Nat)] 108, DiskR p (d.addD frm many first u C).2, .imm φ])) := by
  have HR := room_reads p q frm many first u (by omega) (by omega)
  have HOK := Lib.hid hok
  intro S W w L0 hO
  simp only [List.cons_append, List.nil_append] at hO
  have hmf : ∀ (fn : Fn) (first cap : Array Value) (w : World), (Instr.makeFunc fn first cap).run Tryd.prog w = .ok (.func fn first cap) w := fun _ _ _ _ => rfl
  have hu2 : (u : Int) + n + 1 ≤ many := by omega
  ((try clear hf); have hf := hO.facts; (try simp only [FX, Nat.zero_add, Nat.reduceAdd, and_true, true_and, List.map_cons, List.map_nil, List.cons_append, List.nil_append] at hf))
  go_enter Tryd.func23, Tryd.ntmps23
  go_wp2_with (first | ((first | with_reducible refine wpList_alloc_own hO ?_ | with_reducible refine wpList_drew_own hO ?_ | with_reducible refine wp_alloc_own hO ?_ | with_reducible refine wp_drew_own hO ?_ | with_reducible refine bodyPost_alloc_own hO ?_ | with_reducible refine bodyPost_drew_own hO ?_ | ((first | with_reducible apply wpList_set_own | with_reducible apply wp_set_own | with_reducible apply bodyPost_set_own); (focus (first | (with_reducible apply Own.set; (focus (with_reducible apply hO)); (repeat (first | with_reducible exact Put.here _ _ _ | with_reducible apply Put.there)); done) | (with_reducible apply Own.setRow; (focus (with_reducible apply hO)); (focus (repeat (first | with_reducible exact Put.here _ _ _ | with_reducible apply Put.there))); first | assumption | (simp; omega) | (simp; assumption)) | ((repeat' (first | with_reducible apply hO | with_reducible apply Own.set)); all_goals (repeat (first | with_reducible exact Put.here _ _ _ | with_reducible apply Put.there)); done))))); clear hO; intro w9 hO; (try dsimp only [List.set] at hO); ((try clear hf); have hf := hO.facts; (try simp only [FX, Nat.zero_add, Nat.reduceAdd, and_true, true_and, List.map_cons, List.map_nil, List.cons_append, List.nil_append] at hf))))
  (refine wp_region_run (fun _ => True) (fun _ _ _ _ => trivial) trivial ((1, 0) :: (1, 1) :: (0, 2) :: (1, 3) :: (3, 4) :: (0, 5) :: []) (by kernel_rfl) (by kernel_rfl) rfl (fun _ _ d _ _ h => by cases d <;> exact h) ?_; intro w9 hx9; replace hO := hO.ext hx9; clear hx9; ((try clear hf); have hf := hO.facts; (try simp only [FX, Nat.zero_add, Nat.reduceAdd, and_true, true_and, List.map_cons, List.map_nil, List.cons_append, List.nil_append] at hf)); (repeat (first | (apply inRun_p _ rfl rfl rfl; focus (intro w8 K8 hK8; (repeat (first | go_skip | go_guarded | go_step)); exact hK8)) | (apply inRun_l _ rfl rfl rfl; focus (intro w8 hx8 K8 hK8; have hO := hO.ext hx8; ((try clear hf); have hf := hO.facts; (try simp only [FX, Nat.zero_add, Nat.reduceAdd, and_true, true_and, List.map_cons, List.map_nil, List.cons_append, List.nil_append] at hf)); skip; (repeat (first | go_skip | go_guarded | go_step)); exact hK8)) | (apply inRun_q _ rfl; (focus (intro w8 hx8 K8 hK8; have hO := hO.ext hx8; ((try clear hf); have hf := hO.facts; (try simp only [FX, Nat.zero_add, Nat.reduceAdd, and_true, true_and, List.map_cons, List.map_nil, List.cons_append, List.nil_append] at hf)); (repeat (first | go_skip | go_guarded | go_step | (go_at_call 20; (with_reducible refine Reads.use hO (HR) (by repeat (first | with_reducible exact Takes.nil _ | with_reducible apply Takes.cons | with_reducible exact Pick.here _ _ | with_reducible apply Pick.there)) ?_; intro w7 hx7 hO7; clear hO7; dsimp only)))); (first | exact (by repeat (first | exact Ext.refl _ | assumption | refine Ext.of_drew ?_ | refine Ext.alloc ?_ _ | refine Ext.drew ?_ | refine Ext.trans ?_ (by assumption))) | exact hK8 _ (by repeat (first | exact Ext.refl _ | assumption | refine Ext.of_drew ?_ | refine Ext.alloc ?_ _ | refine Ext.drew ?_ | refine Ext.trans ?_ (by assumption)))))); (focus (exact rfl)); intro w8 hx8; replace hO := hO.ext hx8; clear hx8; ((try clear hf); have hf := hO.facts; (try simp only [FX, Nat.zero_add, Nat.reduceAdd, and_true, true_and, List.map_cons, List.map_nil, List.cons_append, List.nil_append] at hf))))))
  refine inRun_nil ?_
  go_wp2_with (first | ((first | with_reducible refine wpList_alloc_own hO ?_ | with_reducible refine wpList_drew_own hO ?_ | with_reducible refine wp_alloc_own hO ?_ | with_reducible refine wp_drew_own hO ?_ | with_reducible refine bodyPost_alloc_own hO ?_ | with_reducible refine bodyPost_drew_own hO ?_ | ((first | with_reducible apply wpList_set_own | with_reducible apply wp_set_own | with_reducible apply bodyPost_set_own); (focus (first | (with_reducible apply Own.set; (focus (with_reducible apply hO)); (repeat (first | with_reducible exact Put.here _ _ _ | with_reducible apply Put.there)); done) | (with_reducible apply Own.setRow; (focus (with_reducible apply hO)); (focus (repeat (first | with_reducible exact Put.here _ _ _ | with_reducible apply Put.there))); first | assumption | (simp; omega) | (simp; assumption)) | ((repeat' (first | with_reducible apply hO | with_reducible apply Own.set)); all_goals (repeat (first | with_reducible exact Put.here _ _ _ | with_reducible apply Put.there)); done))))); clear hO; intro w9 hO; (try dsimp only [List.set] at hO); ((try clear hf); have hf := hO.facts; (try simp only [FX, Nat.zero_add, Nat.reduceAdd, and_true, true_and, List.map_cons, List.map_nil, List.cons_append, List.nil_append] at hf))))
  obtain ⟨bl, hg9⟩ := (hO.pick (r := Var _ [.pointer (some ⟨q, 0, none⟩)] 32) (by repeat (first | with_reducible exact Pick.here _ _ | with_reducible apply Pick.there))).named
  rw [← hg9] at hO ⊢; clear hg9
  obtain ⟨bc, hg9⟩ := (hO.pick (r := Var _ [.slice a n cap] 44) (by repeat (first | with_reducible exact Pick.here _ _ | with_reducible apply Pick.there))).named
  rw [← hg9] at hO ⊢; clear hg9
  have hO9 := hO
  clear hO hf
  go_loopw [25] (fun v wr => ∃ (i : Nat), v = .int .i64 i ∧ i ≤ n ∧ Own S W wr ([Var bl [.pointer (some ⟨q, 0, none⟩)] 32, Var bc [.slice a n cap] 44, Var q [.pointer (some ⟨p, 0, none⟩), .int .i64 frm, .int .i64 many, .int .i64 first, .int .i64 u] 108, DiskR p d, .imm φ] ++ L0)) (fun v _ => n - (intOf v).toNat)
  case atStart => exact ⟨0, rfl, by omega, (by (try simp only [List.cons_append, List.nil_append]); exact hO9.cut (by repeat (first | with_reducible apply Sub.cons | with_reducible exact Pick.here _ _ | with_reducible apply Pick.there | with_reducible apply Sub.base | with_reducible exact Keeps.here _ | with_reducible apply Keeps.skip)))⟩
  case round =>
    clear hO9
    obtain ⟨i, rfl, hi, hO⟩ := hrel
    rename World => w1
    simp only [List.cons_append, List.nil_append] at hO
    ((try clear hf); have hf := hO.facts; (try simp only [FX, Nat.zero_add, Nat.reduceAdd, and_true, true_and, List.map_cons, List.map_nil, List.cons_append, List.nil_append] at hf))
    by_cases hlt : i < n
    · have hi2 : i < C.length := by omega
      obtain ⟨b, off, rfl⟩ := ChAt.some (a := a) ((hφ _ (Own.immOf (φ := φ) hO (by repeat (first | with_reducible exact Pick.here _ _ | with_reducible apply Pick.there)))).2) (by omega)
      obtain ⟨c0, c1, c2⟩ := ChAt.at (w := w1) (l := C) (b := b) (off := off) ((hφ _ (Own.immOf (φ := φ) hO (by repeat (first | with_reducible exact Pick.here _ _ | with_reducible apply Pick.there)))).2) hi2
      have hcok := HOK.out _ (List.getElem_mem hi2)
      generalize C[i] = c at *
      have hks := key_size hcok.1
      have hvs := hcok.2.2
      have HB := fun w h => chCheck_any c w h (by omega) (by omega)
      rw [chN_ok hcok, show errV 0 = .nilIface from rfl] at HB
      unfold Ch.v at HB
      go_wp2_with (first | (go_at_call 69; (with_reducible apply Calls.mono (HB _ (hφ _ (Own.immOf (φ := φ) hO (by repeat (first | with_reducible exact Pick.here _ _ | with_reducible apply Pick.there)))).1); rintro e8 w8 ⟨rfl, hx8⟩; replace hO := hO.ext hx8; clear hx8; dsimp only; ((try clear hf); have hf := hO.facts; (try simp only [FX, Nat.zero_add, Nat.reduceAdd, and_true, true_and, List.map_cons, List.map_nil, List.cons_append, List.nil_append] at hf)))) | ((first | with_reducible refine wpList_alloc_own hO ?_ | with_reducible refine wpList_drew_own hO ?_ | with_reducible refine wp_alloc_own hO ?_ | with_reducible refine wp_drew_own hO ?_ | with_reducible refine bodyPost_alloc_own hO ?_ | with_reducible refine bodyPost_drew_own hO ?_ | ((first | with_reducible apply wpList_set_own | with_reducible apply wp_set_own | with_reducible apply bodyPost_set_own); (focus (first | (with_reducible apply Own.set; (focus (with_reducible apply hO)); (repeat (first | with_reducible exact Put.here _ _ _ | with_reducible apply Put.there)); done) | (with_reducible apply Own.setRow; (focus (with_reducible apply hO)); (focus (repeat (first | with_reducible exact Put.here _ _ _ | with_reducible apply Put.there))); first | assumption | (simp; omega) | (simp; assumption)) | ((repeat' (first | with_reducible apply hO | with_reducible apply Own.set)); all_goals (repeat (first | with_reducible exact Put.here _ _ _ | with_reducible apply Put.there)); done))))); clear hO; intro w9 hO; (try dsimp only [List.set] at hO); ((try clear hf); have hf := hO.facts; (try simp only [FX, Nat.zero_add, Nat.reduceAdd, and_true, true_and, List.map_cons, List.map_nil, List.cons_append, List.nil_append] at hf))))
      refine ⟨⟨i + 1, by go_num, by omega, ?_⟩, by simp [intOf]; omega⟩
      (try simp only [List.cons_append, List.nil_append])
      exact hO.cut (by repeat (first | with_reducible apply Sub.cons | with_reducible exact Pick.here _ _ | with_reducible apply Pick.there | with_reducible apply Sub.base | with_reducible exact Keeps.here _ | with_reducible apply Keeps.skip))
    · go_wp2_with (first | ((first | with_reducible refine wpList_alloc_own hO ?_ | with_reducible refine wpList_drew_own hO ?_ | with_reducible refine wp_alloc_own hO ?_ | with_reducible refine wp_drew_own hO ?_ | with_reducible refine bodyPost_alloc_own hO ?_ | with_reducible refine bodyPost_drew_own hO ?_ | ((first | with_reducible apply wpList_set_own | with_reducible apply wp_set_own | with_reducible apply bodyPost_set_own); (focus (first | (with_reducible apply Own.set; (focus (with_reducible apply hO)); (repeat (first | with_reducible exact Put.here _ _ _ | with_reducible apply Put.there)); done) | (with_reducible apply Own.setRow; (focus (with_reducible apply hO)); (focus (repeat (first | with_reducible exact Put.here _ _ _ | with_reducible apply Put.there))); first | assumption | (simp; omega) | (simp; assumption)) | ((repeat' (first | with_reducible apply hO | with_reducible apply Own.set)); all_goals (repeat (first | with_reducible exact Put.here _ _ _ | with_reducible apply Put.there)); done))))); clear hO; intro w9 hO; (try dsimp only [List.set] at hO); ((try clear hf); have hf := hO.facts; (try simp only [FX, Nat.zero_add, Nat.reduceAdd, and_true, true_and, List.map_cons, List.map_nil, List.cons_append, List.nil_append] at hf))))
      (refine wp_region_run (fun _ => True) (fun _ _ _ _ => trivial) trivial ((1, 0) :: (0, 1) :: (0, 2) :: (1, 3) :: (1, 4) :: (1, 5) :: (0, 6) :: (4, 7) :: (5, 8) :: []) (by kernel_rfl) (by kernel_rfl) rfl (fun _ _ d _ _ h => by cases d <;> exact h) ?_; intro w9 hx9; replace hO := hO.ext hx9; clear hx9; ((try clear hf); have hf := hO.facts; (try simp only [FX, Nat.zero_add, Nat.reduceAdd, and_true, true_and, List.map_cons, List.map_nil, List.cons_append, List.nil_append] at hf)); (repeat (first | (apply inRun_p _ rfl rfl rfl; focus (intro w8 K8 hK8; (repeat (first | go_skip | go_guarded | go_step)); exact hK8)) | (apply inRun_l _ rfl rfl rfl; focus (intro w8 hx8 K8 hK8; have hO := hO.ext hx8; ((try clear hf); have hf := hO.facts; (try simp only [FX, Nat.zero_add, Nat.reduceAdd, and_true, true_and, List.map_cons, List.map_nil, List.cons_append, List.nil_append] at hf)); skip; (repeat (first | go_skip | go_guarded | go_step)); exact hK8)) | (apply inRun_q _ rfl; (focus (intro w8 hx8 K8 hK8; have hO := hO.ext hx8; ((try clear hf); have hf := hO.facts; (try simp only [FX, Nat.zero_add, Nat.reduceAdd, and_true, true_and, List.map_cons, List.map_nil, List.cons_append, List.nil_append] at hf)); (repeat (first | go_skip | go_guarded | go_step | fail)); (first | exact (by repeat (first | exact Ext.refl _ | assumption | refine Ext.of_drew ?_ | refine Ext.alloc ?_ _ | refine Ext.drew ?_ | refine Ext.trans ?_ (by assumption))) | exact hK8 _ (by repeat (first | exact Ext.refl _ | assumption | refine Ext.of_drew ?_ | refine Ext.alloc ?_ _ | refine Ext.drew ?_ | refine Ext.trans ?_ (by assumption)))))); (focus (exact rfl)); intro w8 hx8; replace hO := hO.ext hx8; clear hx8; ((try clear hf); have hf := hO.facts; (try simp only [FX, Nat.zero_add, Nat.reduceAdd, and_true, true_and, List.map_cons, List.map_nil, List.cons_append, List.nil_append] at hf))))))
      (refine inRun_x rfl ?_; intro K8 hK8; (repeat (first | go_skip | go_guarded | go_step)); refine hK8 _ _ (by repeat (first | exact Ext.refl _ | assumption | refine Ext.of_drew ?_ | refine Ext.alloc ?_ _ | refine Ext.drew ?_ | refine Ext.trans ?_ (by assumption))) ?_; clear hK8 K8; with_reducible refine inRun_alloc_own hO ?_; clear hO; intro w9 hO; ((try clear hf); have hf := hO.facts; (try simp only [FX, Nat.zero_add, Nat.reduceAdd, and_true, true_and, List.map_cons, List.map_nil, List.cons_append, List.nil_append] at hf)))
      (repeat (first | (apply inRun_p _ rfl rfl rfl; focus (intro w8 K8 hK8; (repeat (first | go_skip | go_guarded | go_step)); exact hK8)) | (apply inRun_l _ rfl rfl rfl; focus (intro w8 hx8 K8 hK8; have hO := hO.ext hx8; ((try clear hf); have hf := hO.facts; (try simp only [FX, Nat.zero_add, Nat.reduceAdd, and_true, true_and, List.map_cons, List.map_nil, List.cons_append, List.nil_append] at hf)); skip; (repeat (first | go_skip | go_guarded | go_step)); exact hK8)) | (apply inRun_q _ rfl; (focus (intro w8 hx8 K8 hK8; have hO := hO.ext hx8; ((try clear hf); have hf := hO.facts; (try simp only [FX, Nat.zero_add, Nat.reduceAdd, and_true, true_and, List.map_cons, List.map_nil, List.cons_append, List.nil_append] at hf)); (repeat (first | go_skip | go_guarded | go_step | fail)); (first | exact (by repeat (first | exact Ext.refl _ | assumption | refine Ext.of_drew ?_ | refine Ext.alloc ?_ _ | refine Ext.drew ?_ | refine Ext.trans ?_ (by assumption))) | exact hK8 _ (by repeat (first | exact Ext.refl _ | assumption | refine Ext.of_drew ?_ | refine Ext.alloc ?_ _ | refine Ext.drew ?_ | refine Ext.trans ?_ (by assumption)))))); (focus (exact rfl)); intro w8 hx8; replace hO := hO.ext hx8; clear hx8; ((try clear hf); have hf := hO.facts; (try simp only [FX, Nat.zero_add, Nat.reduceAdd, and_true, true_and, List.map_cons, List.map_nil, List.cons_append, List.nil_append] at hf)))))
      (refine inRun_d rfl ?_; intro K8 hK8; (repeat (first | go_skip | go_guarded | go_step)); refine hK8 _ _ trivial ?_; clear hK8 K8; with_reducible apply inRun_set_own; (focus (first | (with_reducible apply Own.set; (focus (with_reducible apply hO)); (repeat (first | with_reducible exact Put.here _ _ _ | with_reducible apply Put.there)); done) | (with_reducible apply Own.setRow; (focus (with_reducible apply hO)); (focus (repeat (first | with_reducible exact Put.here _ _ _ | with_reducible apply Put.there))); first | assumption | (simp; omega) | (simp; assumption)) | ((repeat' (first | with_reducible apply hO | with_reducible apply Own.set)); all_goals (repeat (first | with_reducible exact Put.here _ _ _ | with_reducible apply Put.there)); done))); clear hO; intro w9 hO; (try dsimp only [List.set] at hO); ((try clear hf); have hf := hO.facts; (try simp only [FX, Nat.zero_add, Nat.reduceAdd, and_true, true_and, List.map_cons, List.map_nil, List.cons_append, List.nil_append] at hf)))
      refine inRun_nil ?_
      go_wp2_with (first | ((first | with_reducible refine wpList_alloc_own hO ?_ | with_reducible refine wpList_drew_own hO ?_ | with_reducible refine wp_alloc_own hO ?_ | with_reducible refine wp_drew_own hO ?_ | with_reducible refine bodyPost_alloc_own hO ?_ | with_reducible refine bodyPost_drew_own hO ?_ | ((first | with_reducible apply wpList_set_own | with_reducible apply wp_set_own | with_reducible apply bodyPost_set_own); (focus (first | (with_reducible apply Own.set; (focus (with_reducible apply hO)); (repeat (first | with_reducible exact Put.here _ _ _ | with_reducible apply Put.there)); done) | (with_reducible apply Own.setRow; (focus (with_reducible apply hO)); (focus (repeat (first | with_reducible exact Put.here _ _ _ | with_reducible apply Put.there))); first | assumption | (simp; omega) | (simp; assumption)) | ((repeat' (first | with_reducible apply hO | with_reducible apply Own.set)); all_goals (repeat (first | with_reducible exact Put.here _ _ _ | with_reducible apply Put.there)); done))))); clear hO; intro w9 hO; (try dsimp only [List.set] at hO); ((try clear hf); have hf := hO.facts; (try simp only [FX, Nat.zero_add, Nat.reduceAdd, and_true, true_and, List.map_cons, List.map_nil, List.cons_append, List.nil_append] at hf))))
      (refine wp_region_run (fun _ => True) (fun _ _ _ _ => trivial) trivial ((0, 0) :: (1, 1) :: (0, 2) :: (0, 3) :: (1, 4) :: (0, 5) :: (0, 6) :: (1, 7) :: (0, 8) :: (0, 9) :: (1, 10) :: (0, 11) :: (0, 14) :: (4, 12) :: (1, 13) :: []) (by kernel_rfl) (by kernel_rfl) rfl (fun _ _ d _ _ h => by cases d <;> exact h) ?_; intro w9 hx9; replace hO := hO.ext hx9; clear hx9; ((try clear hf); have hf := hO.facts; (try simp only [FX, Nat.zero_add, Nat.reduceAdd, and_true, true_and, List.map_cons, List.map_nil, List.cons_append, List.nil_append] at hf)); (repeat (first | (apply inRun_p _ rfl rfl rfl; focus (intro w8 K8 hK8; (repeat (first | go_skip | go_guarded | go_step)); exact hK8)) | (apply inRun_l _ rfl rfl rfl; focus (intro w8 hx8 K8 hK8; have hO := hO.ext hx8; ((try clear hf); have hf := hO.facts; (try simp only [FX, Nat.zero_add, Nat.reduceAdd, and_true, true_and, List.map_cons, List.map_nil, List.cons_append, List.nil_append] at hf)); skip; (repeat (first | go_skip | go_guarded | go_step)); exact hK8)) | (apply inRun_q _ rfl; (focus (intro w8 hx8 K8 hK8; have hO := hO.ext hx8; ((try clear hf); have hf := hO.facts; (try simp only [FX, Nat.zero_add, Nat.reduceAdd, and_true, true_and, List.map_cons, List.map_nil, List.cons_append, List.nil_append] at hf)); (repeat (first | go_skip | go_guarded | go_step | fail)); (first | exact (by repeat (first | exact Ext.refl _ | assumption | refine Ext.of_drew ?_ | refine Ext.alloc ?_ _ | refine Ext.drew ?_ | refine Ext.trans ?_ (by assumption))) | exact hK8 _ (by repeat (first | exact Ext.refl _ | assumption | refine Ext.of_drew ?_ | refine Ext.alloc ?_ _ | refine Ext.drew ?_ | refine Ext.trans ?_ (by assumption)))))); (focus (exact rfl)); intro w8 hx8; replace hO := hO.ext hx8; clear hx8; ((try clear hf); have hf := hO.facts; (try simp only [FX, Nat.zero_add, Nat.reduceAdd, and_true, true_and, List.map_cons, List.map_nil, List.cons_append, List.nil_append] at hf))))))
      (refine inRun_x rfl ?_; intro K8 hK8; (repeat (first | go_skip | go_guarded | go_step)); refine hK8 _ _ (by repeat (first | exact Ext.refl _ | assumption | refine Ext.of_drew ?_ | refine Ext.alloc ?_ _ | refine Ext.drew ?_ | refine Ext.trans ?_ (by assumption))) ?_; clear hK8 K8; with_reducible refine inRun_alloc_own hO ?_; clear hO; intro w9 hO; ((try clear hf); have hf := hO.facts; (try simp only [FX, Nat.zero_add, Nat.reduceAdd, and_true, true_and, List.map_cons, List.map_nil, List.cons_append, List.nil_append] at hf)))
      (repeat (first | (apply inRun_p _ rfl rfl rfl; focus (intro w8 K8 hK8; (repeat (first | go_skip | go_guarded | go_step)); exact hK8)) | (apply inRun_l _ rfl rfl rfl; focus (intro w8 hx8 K8 hK8; have hO := hO.ext hx8; ((try clear hf); have hf := hO.facts; (try simp only [FX, Nat.zero_add, Nat.reduceAdd, and_true, true_and, List.map_cons, List.map_nil, List.cons_append, List.nil_append] at hf)); skip; (repeat (first | go_skip | go_guarded | go_step)); exact hK8)) | (apply inRun_q _ rfl; (focus (intro w8 hx8 K8 hK8; have hO := hO.ext hx8; ((try clear hf); have hf := hO.facts; (try simp only [FX, Nat.zero_add, Nat.reduceAdd, and_true, true_and, List.map_cons, List.map_nil, List.cons_append, List.nil_append] at hf)); (repeat (first | go_skip | go_guarded | go_step | fail)); (first | exact (by repeat (first | exact Ext.refl _ | assumption | refine Ext.of_drew ?_ | refine Ext.alloc ?_ _ | refine Ext.drew ?_ | refine Ext.trans ?_ (by assumption))) | exact hK8 _ (by repeat (first | exact Ext.refl _ | assumption | refine Ext.of_drew ?_ | refine Ext.alloc ?_ _ | refine Ext.drew ?_ | refine Ext.trans ?_ (by assumption)))))); (focus (exact rfl)); intro w8 hx8; replace hO := hO.ext hx8; clear hx8; ((try clear hf); have hf := hO.facts; (try simp only [FX, Nat.zero_add, Nat.reduceAdd, and_true, true_and, List.map_cons, List.map_nil, List.cons_append, List.nil_append] at hf)))))
      refine inRun_nil ?_
      go_wp2_with (first | ((first | with_reducible refine wpList_alloc_own hO ?_ | with_reducible refine wpList_drew_own hO ?_ | with_reducible refine wp_alloc_own hO ?_ | with_reducible refine wp_drew_own hO ?_ | with_reducible refine bodyPost_alloc_own hO ?_ | with_reducible refine bodyPost_drew_own hO ?_ | ((first | with_reducible apply wpList_set_own | with_reducible apply wp_set_own | with_reducible apply bodyPost_set_own); (focus (first | (with_reducible apply Own.set; (focus (with_reducible apply hO)); (repeat (first | with_reducible exact Put.here _ _ _ | with_reducible apply Put.there)); done) | (with_reducible apply Own.setRow; (focus (with_reducible apply hO)); (focus (repeat (first | with_reducible exact Put.here _ _ _ | with_reducible apply Put.there))); first | assumption | (simp; omega) | (simp; assumption)) | ((repeat' (first | with_reducible apply hO | with_reducible apply Own.set)); all_goals (repeat (first | with_reducible exact Put.here _ _ _ | with_reducible apply Put.there)); done))))); clear hO; intro w9 hO; (try dsimp only [List.set] at hO); ((try clear hf); have hf := hO.facts; (try simp only [FX, Nat.zero_add, Nat.reduceAdd, and_true, true_and, List.map_cons, List.map_nil, List.cons_append, List.nil_append] at hf))))
      obtain ⟨be, hg9⟩ := (hO.pick (r := Var _ [.int .i64 ((u : Int) + n)] 3) (by repeat (first | with_reducible exact Pick.here _ _ | with_reducible apply Pick.there))).named
      rw [← hg9] at hO ⊢; clear hg9
      obtain ⟨bf, hg9⟩ := (hO.pick (r := Var _ _ 104) (by repeat (first | with_reducible exact Pick.here _ _ | with_reducible apply Pick.there))).named
      rw [← hg9] at hO ⊢; clear hg9
      have hO9 := hO
      clear hO hf
      go_loopw [56] (fun v wr => ∃ (i : Nat) (e : Dk), v = .int .i64 i ∧ Hid (stg d frm many first u C i e) ∧ DkOk k (j + 20 * i) e ∧ Own S W wr ([Var bl [.pointer (some ⟨q, 0, none⟩)] 32, Var bc [.slice a n cap] 44, Var be [.int .i64 ((u : Int) + n)] 3, Var bf [.func (.func 70) #[] #[.pointer (some ⟨bl, 0, none⟩), .pointer (some ⟨bc, 0, none⟩)], .func (.func 72) #[.pointer (some ⟨p, 0, none⟩)] #[], .func (.func 73) #[] #[.pointer (some ⟨bl, 0, none⟩), .pointer (some ⟨be, 0, none⟩), .pointer (some ⟨bc, 0, none⟩)], .func (.func 72) #[.pointer (some ⟨p, 0, none⟩)] #[]] 104, Var q [.pointer (some ⟨p, 0, none⟩), .int .i64 frm, .int .i64 many, .int .i64 first, .int .i64 u] 108, DiskR p e, .imm φ] ++ L0)) (fun v _ => 4 - (intOf v).toNat)
      case atStart => exact ⟨0, d, rfl, Lib.hid rfl, hD, (by (try simp only [List.cons_append, List.nil_append]); exact hO9.cut (by repeat (first | with_reducible apply Sub.cons | with_reducible exact Pick.here _ _ | with_reducible apply Pick.there | with_reducible apply Sub.base | with_reducible exact Keeps.here _ | with_reducible apply Keeps.skip)))⟩
      case round =>
        clear hO9
        obtain ⟨i, e, rfl, HS, hDe, hO⟩ := hrel
        rename World => w1
        simp only [List.cons_append, List.nil_append] at hO
        ((try clear hf); have hf := hO.facts; (try simp only [FX, Nat.zero_add, Nat.reduceAdd, and_true, true_and, List.map_cons, List.map_nil, List.cons_append, List.nil_append] at hf))
        match i, HS with
        | 0, HS =>
          have hS : d = e := (show e = d from HS.out).symm
          subst hS
          have H1 := add1_does bl bc p q d k j frm many first u a n cap C hD (by omega) hC hn hok hu hlen hk hfi hφ
          have hcd := lays_code (lws frm many first u C) j d hD (fun t ht => by have := lws_ok (frm := frm) (many := many) (first := first) (u := u) hok (by omega) t ht; omega)
          have hlen2 := lws_len frm many first u C
          have hD2 := hD.lays (lws frm many first u C)
          have hA0 := fun h => addD_0 (d := d) (frm := frm) (many := many) (first := first) (u := u) (C := C) h
          have hst := fun (h : (d.lays (lws frm many first u C)).1 = 0) => show stg d frm many first u C 1 (d.lays (lws frm many first u C)).2 from Prod.ext h rfl
          generalize d.lays (lws frm many first u C) = r at *
          obtain ⟨rc, e⟩ := r
          dsimp only at H1 hcd hD2 hA0 hst
          rcases hcd with rfl | rfl
          · rw [show errV 0 = .nilIface from rfl] at H1
            have hD3 : DkOk k (j + 20 * (0 + 1)) e := ⟨hD2.now, hD2.kept, hD2.f1, hD2.f2, by have := hD2.wait; omega, hD2.ats⟩
            have HST := Lib.hid (hst rfl)
            clear hA0 hst hD2
            go_wp2_with (first | (go_at_call 70; (with_reducible refine Does.use hO (H1) (by repeat (first | with_reducible exact Takes.nil _ | with_reducible apply Takes.cons | with_reducible exact Pick.here _ _ | with_reducible apply Pick.there)) ?_; clear hO; intro x9 w9 hO; dsimp only at hO ⊢; simp only [List.cons_append, List.nil_append] at hO; ((try clear hf); have hf := hO.facts; (try simp only [FX, Nat.zero_add, Nat.reduceAdd, and_true, true_and, List.map_cons, List.map_nil, List.cons_append, List.nil_append] at hf)))) | ((first | with_reducible refine wpList_alloc_own hO ?_ | with_reducible refine wpList_drew_own hO ?_ | with_reducible refine wp_alloc_own hO ?_ | with_reducible refine wp_drew_own hO ?_ | with_reducible refine bodyPost_alloc_own hO ?_ | with_reducible refine bodyPost_drew_own hO ?_ | ((first | with_reducible apply wpList_set_own | with_reducible apply wp_set_own | with_reducible apply bodyPost_set_own); (focus (first | (with_reducible apply Own.set; (focus (with_reducible apply hO)); (repeat (first | with_reducible exact Put.here _ _ _ | with_reducible apply Put.there)); done) | (with_reducible apply Own.setRow; (focus (with_reducible apply hO)); (focus (repeat (first | with_reducible exact Put.here _ _ _ | with_reducible apply Put.there))); first | assumption | (simp; omega) | (simp; assumption)) | ((repeat' (first | with_reducible apply hO | with_reducible apply Own.set)); all_goals (repeat (first | with_reducible exact Put.here _ _ _ | with_reducible apply Put.there)); done))))); clear hO; intro w9 hO; (try dsimp only [List.set] at hO); ((try clear hf); have hf := hO.facts; (try simp only [FX, Nat.zero_add, Nat.reduceAdd, and_true, true_and, List.map_cons, List.map_nil, List.cons_append, List.nil_append] at hf))))
            refine ⟨⟨1, e, by go_num, HST, hD3, ?_⟩, by simp [intOf]⟩
            (try simp only [List.cons_append, List.nil_append])
            exact hO.cut (by repeat (first | with_reducible apply Sub.cons | with_reducible exact Pick.here _ _ | with_reducible apply Pick.there | with_reducible apply Sub.base | with_reducible exact Keeps.here _ | with_reducible apply Keeps.skip))
          · have HA := Lib.hid (hA0 (by omega))
            clear hA0 hst hD2
            rw [show errV 10 = .iface 97 (.int .i64 10) from rfl] at H1
            go_wp2_with (first | (go_at_call 70; (with_reducible refine Does.use hO (H1) (by repeat (first | with_reducible exact Takes.nil _ | with_reducible apply Takes.cons | with_reducible exact Pick.here _ _ | with_reducible apply Pick.there)) ?_; clear hO; intro x9 w9 hO; dsimp only at hO ⊢; simp only [List.cons_append, List.nil_append] at hO; ((try clear hf); have hf := hO.facts; (try simp only [FX, Nat.zero_add, Nat.reduceAdd, and_true, true_and, List.map_cons, List.map_nil, List.cons_append, List.nil_append] at hf)))) | ((first | with_reducible refine wpList_alloc_own hO ?_ | with_reducible refine wpList_drew_own hO ?_ | with_reducible refine wp_alloc_own hO ?_ | with_reducible refine wp_drew_own hO ?_ | with_reducible refine bodyPost_alloc_own hO ?_ | with_reducible refine bodyPost_drew_own hO ?_ | ((first | with_reducible apply wpList_set_own | with_reducible apply wp_set_own | with_reducible apply bodyPost_set_own); (focus (first | (with_reducible apply Own.set; (focus (with_reducible apply hO)); (repeat (first | with_reducible exact Put.here _ _ _ | with_reducible apply Put.there)); done) | (with_reducible apply Own.setRow; (focus (with_reducible apply hO)); (focus (repeat (first | with_reducible exact Put.here _ _ _ | with_reducible apply Put.there))); first | assumption | (simp; omega) | (simp; assumption)) | ((repeat' (first | with_reducible apply hO | with_reducible apply Own.set)); all_goals (repeat (first | with_reducible exact Put.here _ _ _ | with_reducible apply Put.there)); done))))); clear hO; intro w9 hO; (try dsimp only [List.set] at hO); ((try clear hf); have hf := hO.facts; (try simp only [FX, Nat.zero_add, Nat.reduceAdd, and_true, true_and, List.map_cons, List.map_nil, List.cons_append, List.nil_append] at hf))))
            go_ret
            rw [HA.out]
            refine ⟨(), rfl, ?_⟩
            dsimp only
            rw [show usedA 10 u n = u from rfl]
            exact hO.give (by repeat (first | with_reducible exact Takes.nil _ | with_reducible apply Takes.cons | with_reducible exact Pick.here _ _ | with_reducible apply Pick.there)) (by repeat (first | exact Keeps.here _ | apply Keeps.skip))
        | 1, HS =>
          have hS : d.lays (lws frm many first u C) = (0, e) := HS.out
          clear HS
          have H1 := flush_does p e hDe.f1 hDe.f2 (by rw [hDe.now]; omega) (by rw [hDe.now, hDe.kept])
          have hcd := flush_code2 e
          have hD2 := hDe.flush
          have hA0 := fun h => addD_1 (d := d) (frm := frm) (many := many) (first := first) (u := u) (C := C) hS (d1 := e) h
          have hst := fun (h : e.flush.1 = 0) => show stg d frm many first u C 2 e.flush.2 from ⟨e, hS, Prod.ext h rfl⟩
          clear hS
          generalize e.flush = r at *
          obtain ⟨rc, e'⟩ := r
          dsimp only at H1 hcd hD2 hA0 hst
          rcases hcd with rfl | rfl
          · rw [show errV 0 = .nilIface from rfl] at H1
            have hD3 : DkOk k (j + 20 * (1 + 1)) e' := ⟨hD2.now, hD2.kept, hD2.f1, hD2.f2, by have := hD2.wait; omega, hD2.ats⟩
            have HST := Lib.hid (hst rfl)
            clear hA0 hst hD2
            go_wp2_with (first | (go_at_call 72; (with_reducible refine Does.use hO (H1) (by repeat (first | with_reducible exact Takes.nil _ | with_reducible apply Takes.cons | with_reducible exact Pick.here _ _ | with_reducible apply Pick.there)) ?_; clear hO; intro x9 w9 hO; dsimp only at hO ⊢; simp only [List.cons_append, List.nil_append] at hO; ((try clear hf); have hf := hO.facts; (try simp only [FX, Nat.zero_add, Nat.reduceAdd, and_true, true_and, List.map_cons, List.map_nil, List.cons_append, List.nil_append] at hf)))) | ((first | with_reducible refine wpList_alloc_own hO ?_ | with_reducible refine wpList_drew_own hO ?_ | with_reducible refine wp_alloc_own hO ?_ | with_reducible refine wp_drew_own hO ?_ | with_reducible refine bodyPost_alloc_own hO ?_ | with_reducible refine bodyPost_drew_own hO ?_ | ((first | with_reducible apply wpList_set_own | with_reducible apply wp_set_own | with_reducible apply bodyPost_set_own); (focus (first | (with_reducible apply Own.set; (focus (with_reducible apply hO)); (repeat (first | with_reducible exact Put.here _ _ _ | with_reducible apply Put.there)); done) | (with_reducible apply Own.setRow; (focus (with_reducible apply hO)); (focus (repeat (first | with_reducible exact Put.here _ _ _ | with_reducible apply Put.there))); first | assumption | (simp; omega) | (simp; assumption)) | ((repeat' (first | with_reducible apply hO | with_reducible apply Own.set)); all_goals (repeat (first | with_reducible exact Put.here _ _ _ | with_reducible apply Put.there)); done))))); clear hO; intro w9 hO; (try dsimp only [List.set] at hO); ((try clear hf); have hf := hO.facts; (try simp only [FX, Nat.zero_add, Nat.reduceAdd, and_true, true_and, List.map_cons, List.map_nil, List.cons_append, List.nil_append] at hf))))
            refine ⟨⟨2, e', by go_num, HST, hD3, ?_⟩, by simp [intOf]⟩
            (try simp only [List.cons_append, List.nil_append])
            exact hO.cut (by repeat (first | with_reducible apply Sub.cons | with_reducible exact Pick.here _ _ | with_reducible apply Pick.there | with_reducible apply Sub.base | with_reducible exact Keeps.here _ | with_reducible apply Keeps.skip))
          · have HA := Lib.hid (hA0 (by omega))
            clear hA0 hst hD2
            rw [show errV 10 = .iface 97 (.int .i64 10) from rfl] at H1
            go_wp2_with (first | (go_at_call 72; (with_reducible refine Does.use hO (H1) (by repeat (first | with_reducible exact Takes.nil _ | with_reducible apply Takes.cons | with_reducible exact Pick.here _ _ | with_reducible apply Pick.there)) ?_; clear hO; intro x9 w9 hO; dsimp only at hO ⊢; simp only [List.cons_append, List.nil_append] at hO; ((try clear hf); have hf := hO.facts; (try simp only [FX, Nat.zero_add, Nat.reduceAdd, and_true, true_and, List.map_cons, List.map_nil, List.cons_append, List.nil_append] at hf)))) | ((first | with_reducible refine wpList_alloc_own hO ?_ | with_reducible refine wpList_drew_own hO ?_ | with_reducible refine wp_alloc_own hO ?_ | with_reducible refine wp_drew_own hO ?_ | with_reducible refine bodyPost_alloc_own hO ?_ | with_reducible refine bodyPost_drew_own hO ?_ | ((first | with_reducible apply wpList_set_own | with_reducible apply wp_set_own | with_reducible apply bodyPost_set_own); (focus (first | (with_reducible apply Own.set; (focus (with_reducible apply hO)); (repeat (first | with_reducible exact Put.here _ _ _ | with_reducible apply Put.there)); done) | (with_reducible apply Own.setRow; (focus (with_reducible apply hO)); (focus (repeat (first | with_reducible exact Put.here _ _ _ | with_reducible apply Put.there))); first | assumption | (simp; omega) | (simp; assumption)) | ((repeat' (first | with_reducible apply hO | with_reducible apply Own.set)); all_goals (repeat (first | with_reducible exact Put.here _ _ _ | with_reducible apply Put.there)); done))))); clear hO; intro w9 hO; (try dsimp only [List.set] at hO); ((try clear hf); have hf := hO.facts; (try simp only [FX, Nat.zero_add, Nat.reduceAdd, and_true, true_and, List.map_cons, List.map_nil, List.cons_append, List.nil_append] at hf))))
            go_ret
            rw [HA.out]
            refine ⟨(), rfl, ?_⟩
            dsimp only
            rw [show usedA 10 u n = u from rfl]
            exact hO.give (by repeat (first | with_reducible exact Takes.nil _ | with_reducible apply Takes.cons | with_reducible exact Pick.here _ _ | with_reducible apply Pick.there)) (by repeat (first | exact Keeps.here _ | apply Keeps.skip))
        | 2, HS =>
          obtain ⟨d1, hS, hS1⟩ : ∃ d1, d.lays (lws frm many first u C) = (0, d1) ∧ d1.flush = (0, e) := HS.out
          clear HS
          have H1 := add2_does bl be bc p q e k (j + 20 * 2) frm many first u a n cap hDe (by omega) hn hu hlen hk hfi
          rw [← hC] at H1
          have hcd := write_code2 (d := e) (n := frm + (u + C.length)) (s := secB 99 (first + (u + C.length)) (four C.length)) (by rw [hDe.now]; omega) (by rw [secB_size, four_size]; omega)
          have hD2 := hDe.write ((frm + (u + C.length) : Nat) : Int) (secB 99 (first + (u + C.length)) (four C.length))
          have hA0 := fun h => addD_2 (d := d) (frm := frm) (many := many) (first := first) (u := u) (C := C) hS hS1 h
          have hst := fun (h : (e.writeR ((frm + (u + C.length) : Nat) : Int) (secB 99 (first + (u + C.length)) (four C.length))).1 = 0) => show stg d frm many first u C 3 (e.writeR ((frm + (u + C.length) : Nat) : Int) (secB 99 (first + (u + C.length)) (four C.length))).2 from ⟨d1, e, hS, hS1, Prod.ext h rfl⟩
          clear hS hS1
          generalize e.writeR ((frm + (u + C.length) : Nat) : Int) (secB 99 (first + (u + C.length)) (four C.length)) = r at *
          rw [hC] at H1
          obtain ⟨rc, e'⟩ := r
          dsimp only at H1 hcd hD2 hA0 hst
          rcases hcd with rfl | rfl
          · rw [show errV 0 = .nilIface from rfl] at H1
            have hD3 : DkOk k (j + 20 * (2 + 1)) e' := ⟨hD2.now, hD2.kept, hD2.f1, hD2.f2, by have := hD2.wait; omega, hD2.ats⟩
            have HST := Lib.hid (hst rfl)
            clear hA0 hst hD2
            go_wp2_with (first | (go_at_call 73; (with_reducible refine Does.use hO (H1) (by repeat (first | with_reducible exact Takes.nil _ | with_reducible apply Takes.cons | with_reducible exact Pick.here _ _ | with_reducible apply Pick.there)) ?_; clear hO; intro x9 w9 hO; dsimp only at hO ⊢; simp only [List.cons_append, List.nil_append] at hO; ((try clear hf); have hf := hO.facts; (try simp only [FX, Nat.zero_add, Nat.reduceAdd, and_true, true_and, List.map_cons, List.map_nil, List.cons_append, List.nil_append] at hf)))) | ((first | with_reducible refine wpList_alloc_own hO ?_ | with_reducible refine wpList_drew_own hO ?_ | with_reducible refine wp_alloc_own hO ?_ | with_reducible refine wp_drew_own hO ?_ | with_reducible refine bodyPost_alloc_own hO ?_ | with_reducible refine bodyPost_drew_own hO ?_ | ((first | with_reducible apply wpList_set_own | with_reducible apply wp_set_own | with_reducible apply bodyPost_set_own); (focus (first | (with_reducible apply Own.set; (focus (with_reducible apply hO)); (repeat (first | with_reducible exact Put.here _ _ _ | with_reducible apply Put.there)); done) | (with_reducible apply Own.setRow; (focus (with_reducible apply hO)); (focus (repeat (first | with_reducible exact Put.here _ _ _ | with_reducible apply Put.there))); first | assumption | (simp; omega) | (simp; assumption)) | ((repeat' (first | with_reducible apply hO | with_reducible apply Own.set)); all_goals (repeat (first | with_reducible exact Put.here _ _ _ | with_reducible apply Put.there)); done))))); clear hO; intro w9 hO; (try dsimp only [List.set] at hO); ((try clear hf); have hf := hO.facts; (try simp only [FX, Nat.zero_add, Nat.reduceAdd, and_true, true_and, List.map_cons, List.map_nil, List.cons_append, List.nil_append] at hf))))
            refine ⟨⟨3, e', by go_num, HST, hD3, ?_⟩, by simp [intOf]⟩
            (try simp only [List.cons_append, List.nil_append])
            exact hO.cut (by repeat (first | with_reducible apply Sub.cons | with_reducible exact Pick.here _ _ | with_reducible apply Pick.there | with_reducible apply Sub.base | with_reducible exact Keeps.here _ | with_reducible apply Keeps.skip))
          · have HA := Lib.hid (hA0 (by omega))
            clear hA0 hst hD2
            rw [show errV 10 = .iface 97 (.int .i64 10) from rfl] at H1
            go_wp2_with (first | (go_at_call 73; (with_reducible refine Does.use hO (H1) (by repeat (first | with_reducible exact Takes.nil _ | with_reducible apply Takes.cons | with_reducible exact Pick.here _ _ | with_reducible apply Pick.there)) ?_; clear hO; intro x9 w9 hO; dsimp only at hO ⊢; simp only [List.cons_append, List.nil_append] at hO; ((try clear hf); have hf := hO.facts; (try simp only [FX, Nat.zero_add, Nat.reduceAdd, and_true, true_and, List.map_cons, List.map_nil, List.cons_append, List.nil_append] at hf)))) | ((first | with_reducible refine wpList_alloc_own hO ?_ | with_reducible refine wpList_drew_own hO ?_ | with_reducible refine wp_alloc_own hO ?_ | with_reducible refine wp_drew_own hO ?_ | with_reducible refine bodyPost_alloc_own hO ?_ | with_reducible refine bodyPost_drew_own hO ?_ | ((first | with_reducible apply wpList_set_own | with_reducible apply wp_set_own | with_reducible apply bodyPost_set_own); (focus (first | (with_reducible apply Own.set; (focus (with_reducible apply hO)); (repeat (first | with_reducible exact Put.here _ _ _ | with_reducible apply Put.there)); done) | (with_reducible apply Own.setRow; (focus (with_reducible apply hO)); (focus (repeat (first | with_reducible exact Put.here _ _ _ | with_reducible apply Put.there))); first | assumption | (simp; omega) | (simp; assumption)) | ((repeat' (first | with_reducible apply hO | with_reducible apply Own.set)); all_goals (repeat (first | with_reducible exact Put.here _ _ _ | with_reducible apply Put.there)); done))))); clear hO; intro w9 hO; (try dsimp only [List.set] at hO); ((try clear hf); have hf := hO.facts; (try simp only [FX, Nat.zero_add, Nat.reduceAdd, and_true, true_and, List.map_cons, List.map_nil, List.cons_append, List.nil_append] at hf))))
            go_ret
            rw [HA.out]
            refine ⟨(), rfl, ?_⟩
            dsimp only
            rw [show usedA 10 u n = u from rfl]
            exact hO.give (by repeat (first | with_reducible exact Takes.nil _ | with_reducible apply Takes.cons | with_reducible exact Pick.here _ _ | with_reducible apply Pick.there)) (by repeat (first | exact Keeps.here _ | apply Keeps.skip))
        | 3, HS =>
          obtain ⟨d1, d2, hS, hS1, hS2⟩ : ∃ d1 d2, d.lays (lws frm many first u C) = (0, d1) ∧ d1.flush = (0, d2) ∧ d2.writeR ((frm + (u + C.length) : Nat) : Int) (secB 99 (first + (u + C.length)) (four C.length)) = (0, e) := HS.out
          clear HS
          have H1 := flush_does p e hDe.f1 hDe.f2 (by rw [hDe.now]; omega) (by rw [hDe.now, hDe.kept])
          have hcd := flush_code2 e
          have hD2 := hDe.flush
          have hA0 := addD_3 (d := d) (frm := frm) (many := many) (first := first) (u := u) (C := C) hS hS1 hS2
          have hst := fun (h : e.flush.1 = 0) => show stg d frm many first u C 4 e.flush.2 from hA0.trans (Prod.ext h rfl)
          clear hS hS1 hS2
          generalize e.flush = r at *
          obtain ⟨rc, e'⟩ := r
          dsimp only at H1 hcd hD2 hA0 hst
          rcases hcd with rfl | rfl
          · rw [show errV 0 = .nilIface from rfl] at H1
            have hD3 : DkOk k (j + 20 * (3 + 1)) e' := ⟨hD2.now, hD2.kept, hD2.f1, hD2.f2, by have := hD2.wait; omega, hD2.ats⟩
            have HST := Lib.hid (hst rfl)
            clear hA0 hst hD2
            go_wp2_with (first | (go_at_call 72; (with_reducible refine Does.use hO (H1) (by repeat (first | with_reducible exact Takes.nil _ | with_reducible apply Takes.cons | with_reducible exact Pick.here _ _ | with_reducible apply Pick.there)) ?_; clear hO; intro x9 w9 hO; dsimp only at hO ⊢; simp only [List.cons_append, List.nil_append] at hO; ((try clear hf); have hf := hO.facts; (try simp only [FX, Nat.zero_add, Nat.reduceAdd, and_true, true_and, List.map_cons, List.map_nil, List.cons_append, List.nil_append] at hf)))) | ((first | with_reducible refine wpList_alloc_own hO ?_ | with_reducible refine wpList_drew_own hO ?_ | with_reducible refine wp_alloc_own hO ?_ | with_reducible refine wp_drew_own hO ?_ | with_reducible refine bodyPost_alloc_own hO ?_ | with_reducible refine bodyPost_drew_own hO ?_ | ((first | with_reducible apply wpList_set_own | with_reducible apply wp_set_own | with_reducible apply bodyPost_set_own); (focus (first | (with_reducible apply Own.set; (focus (with_reducible apply hO)); (repeat (first | with_reducible exact Put.here _ _ _ | with_reducible apply Put.there)); done) | (with_reducible apply Own.setRow; (focus (with_reducible apply hO)); (focus (repeat (first | with_reducible exact Put.here _ _ _ | with_reducible apply Put.there))); first | assumption | (simp; omega) | (simp; assumption)) | ((repeat' (first | with_reducible apply hO | with_reducible apply Own.set)); all_goals (repeat (first | with_reducible exact Put.here _ _ _ | with_reducible apply Put.there)); done))))); clear hO; intro w9 hO; (try dsimp only [List.set] at hO); ((try clear hf); have hf := hO.facts; (try simp only [FX, Nat.zero_add, Nat.reduceAdd, and_true, true_and, List.map_cons, List.map_nil, List.cons_append, List.nil_append] at hf))))
            refine ⟨⟨4, e', by go_num, HST, hD3, ?_⟩, by simp [intOf]⟩
            (try simp only [List.cons_append, List.nil_append])
            exact hO.cut (by repeat (first | with_reducible apply Sub.cons | with_reducible exact Pick.here _ _ | with_reducible apply Pick.there | with_reducible apply Sub.base | with_reducible exact Keeps.here _ | with_reducible apply Keeps.skip))
          · have HA := Lib.hid hA0
            clear hA0 hst hD2
            rw [show errV 10 = .iface 97 (.int .i64 10) from rfl] at H1
            go_wp2_with (first | (go_at_call 72; (with_reducible refine Does.use hO (H1) (by repeat (first | with_reducible exact Takes.nil _ | with_reducible apply Takes.cons | with_reducible exact Pick.here _ _ | with_reducible apply Pick.there)) ?_; clear hO; intro x9 w9 hO; dsimp only at hO ⊢; simp only [List.cons_append, List.nil_append] at hO; ((try clear hf); have hf := hO.facts; (try simp only [FX, Nat.zero_add, Nat.reduceAdd, and_true, true_and, List.map_cons, List.map_nil, List.cons_append, List.nil_append] at hf)))) | ((first | with_reducible refine wpList_alloc_own hO ?_ | with_reducible refine wpList_drew_own hO ?_ | with_reducible refine wp_alloc_own hO ?_ | with_reducible refine wp_drew_own hO ?_ | with_reducible refine bodyPost_alloc_own hO ?_ | with_reducible refine bodyPost_drew_own hO ?_ | ((first | with_reducible apply wpList_set_own | with_reducible apply wp_set_own | with_reducible apply bodyPost_set_own); (focus (first | (with_reducible apply Own.set; (focus (with_reducible apply hO)); (repeat (first | with_reducible exact Put.here _ _ _ | with_reducible apply Put.there)); done) | (with_reducible apply Own.setRow; (focus (with_reducible apply hO)); (focus (repeat (first | with_reducible exact Put.here _ _ _ | with_reducible apply Put.there))); first | assumption | (simp; omega) | (simp; assumption)) | ((repeat' (first | with_reducible apply hO | with_reducible apply Own.set)); all_goals (repeat (first | with_reducible exact Put.here _ _ _ | with_reducible apply Put.there)); done))))); clear hO; intro w9 hO; (try dsimp only [List.set] at hO); ((try clear hf); have hf := hO.facts; (try simp only [FX, Nat.zero_add, Nat.reduceAdd, and_true, true_and, List.map_cons, List.map_nil, List.cons_append, List.nil_append] at hf))))
            go_ret
            rw [HA.out]
            refine ⟨(), rfl, ?_⟩
            dsimp only
            rw [show usedA 10 u n = u from rfl]
            exact hO.give (by repeat (first | with_reducible exact Takes.nil _ | with_reducible apply Takes.cons | with_reducible exact Pick.here _ _ | with_reducible apply Pick.there)) (by repeat (first | exact Keeps.here _ | apply Keeps.skip))
        | 4, HS =>
          have hS : d.addD frm many first u C = (0, e) := HS.out
          have HA := Lib.hid hS
          clear hS HS
          go_wp2_with (first | ((first | with_reducible refine wpList_alloc_own hO ?_ | with_reducible refine wpList_drew_own hO ?_ | with_reducible refine wp_alloc_own hO ?_ | with_reducible refine wp_drew_own hO ?_ | with_reducible refine bodyPost_alloc_own hO ?_ | with_reducible refine bodyPost_drew_own hO ?_ | ((first | with_reducible apply wpList_set_own | with_reducible apply wp_set_own | with_reducible apply bodyPost_set_own); (focus (first | (with_reducible apply Own.set; (focus (with_reducible apply hO)); (repeat (first | with_reducible exact Put.here _ _ _ | with_reducible apply Put.there)); done) | (with_reducible apply Own.setRow; (focus (with_reducible apply hO)); (focus (repeat (first | with_reducible exact Put.here _ _ _ | with_reducible apply Put.there))); first | assumption | (simp; omega) | (simp; assumption)) | ((repeat' (first | with_reducible apply hO | with_reducible apply Own.set)); all_goals (repeat (first | with_reducible exact Put.here _ _ _ | with_reducible apply Put.there)); done))))); clear hO; intro w9 hO; (try dsimp only [List.set] at hO); ((try clear hf); have hf := hO.facts; (try simp only [FX, Nat.zero_add, Nat.reduceAdd, and_true, true_and, List.map_cons, List.map_nil, List.cons_append, List.nil_append] at hf))))
          go_ret
          rw [HA.out]
          refine ⟨(), rfl, ?_⟩
          dsimp only
          rw [show ((usedA 0 u n : Nat) : Int) = (u : Int) + n + 1 from by rw [show usedA 0 u n = u + n + 1 from rfl]; omega]
          exact hO.give (by repeat (first | with_reducible exact Takes.nil _ | with_reducible apply Takes.cons | with_reducible exact Pick.here _ _ | with_reducible apply Pick.there)) (by repeat (first | exact Keeps.here _ | apply Keeps.skip))
        | i + 5, HS => exact HS.out.elim
end Go.Proofs.YtpdnlgopbnkdhaaDoor
namespace Go.Proofs.YtpdnlgopbnkdhaaDoor
open Go.RowKit
/-- What is wrong with the first one that may not be. -/
noncomputable def faultN : List Ch → Nat
  | [] => 0
  | c :: l => if chN c = 0 then faultN l else chN c
theorem faultN_zero : ∀ {l : List Ch}, faultN l = 0 ↔ ∀ c ∈ l, ChOk c
  | [] => ⟨fun _ c h => (List.not_mem_nil h).elim, fun _ => rfl⟩
  | c :: l => by
    rw [faultN]
    split
    · rename_i h
      rw [faultN_zero (l := l)]
      constructor
      · intro h2 x hx
        rcases List.mem_cons.1 hx with rfl | hx
        · exact chN_zero.1 h
        · exact h2 x hx
      · exact fun h2 x hx => h2 x (List.mem_cons_of_mem _ hx)
    · rename_i h
      refine ⟨fun h2 => absurd h2 h, fun h2 => absurd (chN_ok (h2 c (List.mem_cons_self ..))) h⟩
theorem faultN_le : ∀ (l : List Ch), faultN l ≤ 3
  | [] => by simp [faultN]
  | c :: l => by
    rw [faultN]
    split
    · exact faultN_le l
    · exact chN_le c
noncomputable def addN (C : List Ch) (room : Int) : Nat := if 12 < C.length then 2 else if room < C.length + 1 then 8 else faultN C
theorem addN_le (C : List Ch) (room : Int) : addN C room ≤ 8 := by
  have := faultN_le C
  unfold addN
  split
  · omega
  · split <;> omega
theorem addN_zero {C : List Ch} {room : Int} : addN C room = 0 ↔ C.length ≤ 12 ∧ (C.length : Int) + 1 ≤ room ∧ ∀ c ∈ C, ChOk c := by
  unfold addN
  split
  · exact ⟨fun h => by omega, fun h => by omega⟩
  · split
    · exact ⟨fun h => by omega, fun h => by omega⟩
    · rw [faultN_zero]
      exact ⟨fun h => ⟨by omega, by omega, h⟩, fun h => h.2.2⟩
set_option maxHeartbeats 4000000 in
set_option maxRecDepth 100000 in
theorem add_bad (p q frm many first u : Nat) (a : Option Addr) (n cap : Nat) (C : List Ch) (hC : C.length = n) (hn : n ≤ 9223372036854775806) (hsz : ∀ c ∈ C, c.key.size ≤ 300 ∧ c.val.size ≤ 1000)
    (hm : many ≤ 1000) (hu : u ≤ many) (hb : addN C ((many : Int) - u) ≠ 0) {φ : World → Prop} (hφ : ∀ w, φ w → LibOk w ∧ ValsAt w a (chs C)) :
    Does Tryd.prog 23 #[.pointer (some ⟨q, 0, none⟩), .slice a n cap] [Var q [.pointer (some ⟨p, 0, none⟩), .int .i64 frm, .int .i64 many, .int .i64 first, .int .i64 u] 108, .imm φ]
      (fun _ : Unit => (errV (addN C ((many : Int) - u)), [Var q [.pointer (some ⟨p, 0, none⟩), .int .i64 frm, .int .i64 many, .int .i64 first, .int .i64 u] 108, .imm φ])) := by
  have HR := room_reads p q frm many first u (by omega) (by omega)
  have HSZ := Lib.hid hsz
  clear hsz
  intro S W w L0 hO
  simp only [List.cons_append, List.nil_append] at hO
  by_cases h12 : 12 < n
  · rw [show addN C ((many : Int) - u) = 2 from if_pos (by omega), show errV 2 = .iface 97 (.int .i64 2) from rfl]
    ((try clear hf); have hf := hO.facts; (try simp only [FX, Nat.zero_add, Nat.reduceAdd, and_true, true_and, List.map_cons, List.map_nil, List.cons_append, List.nil_append] at hf))
    go_enter Tryd.func23, Tryd.ntmps23
    go_wp2_with (first | ((first | with_reducible refine wpList_alloc_own hO ?_ | with_reducible refine wpList_drew_own hO ?_ | with_reducible refine wp_alloc_own hO ?_ | with_reducible refine wp_drew_own hO ?_ | with_reducible refine bodyPost_alloc_own hO ?_ | with_reducible refine bodyPost_drew_own hO ?_ | ((first | with_reducible apply wpList_set_own | with_reducible apply wp_set_own | with_reducible apply bodyPost_set_own); (focus (first | (with_reducible apply Own.set; (focus (with_reducible apply hO)); (repeat (first | with_reducible exact Put.here _ _ _ | with_reducible apply Put.there)); done) | (with_reducible apply Own.setRow; (focus (with_reducible apply hO)); (focus (repeat (first | with_reducible exact Put.here _ _ _ | with_reducible apply Put.there))); first | assumption | (simp; omega) | (simp; assumption)) | ((repeat' (first | with_reducible apply hO | with_reducible apply Own.set)); all_goals (repeat (first | with_reducible exact Put.here _ _ _ | with_reducible apply Put.there)); done))))); clear hO; intro w9 hO; (try dsimp only [List.set] at hO); ((try clear hf); have hf := hO.facts; (try simp only [FX, Nat.zero_add, Nat.reduceAdd, and_true, true_and, List.map_cons, List.map_nil, List.cons_append, List.nil_append] at hf))))
    go_ret
    exact ⟨(), rfl, hO.give (by repeat (first | with_reducible exact Takes.nil _ | with_reducible apply Takes.cons | with_reducible exact Pick.here _ _ | with_reducible apply Pick.there)) (by repeat (first | exact Keeps.here _ | apply Keeps.skip))⟩
  · by_cases hroom : (many : Int) - u < n + 1
    · rw [show addN C ((many : Int) - u) = 8 from by unfold addN; rw [if_neg (by omega), if_pos (by omega)], show errV 8 = .iface 97 (.int .i64 8) from rfl]
      ((try clear hf); have hf := hO.facts; (try simp only [FX, Nat.zero_add, Nat.reduceAdd, and_true, true_and, List.map_cons, List.map_nil, List.cons_append, List.nil_append] at hf))
      go_enter Tryd.func23, Tryd.ntmps23
      go_wp2_with (first | ((first | with_reducible refine wpList_alloc_own hO ?_ | with_reducible refine wpList_drew_own hO ?_ | with_reducible refine wp_alloc_own hO ?_ | with_reducible refine wp_drew_own hO ?_ | with_reducible refine bodyPost_alloc_own hO ?_ | with_reducible refine bodyPost_drew_own hO ?_ | ((first | with_reducible apply wpList_set_own | with_reducible apply wp_set_own | with_reducible apply bodyPost_set_own); (focus (first | (with_reducible apply Own.set; (focus (with_reducible apply hO)); (repeat (first | with_reducible exact Put.here _ _ _ | with_reducible apply Put.there)); done) | (with_reducible apply Own.setRow; (focus (with_reducible apply hO)); (focus (repeat (first | with_reducible exact Put.here _ _ _ | with_reducible apply Put.there))); first | assumption | (simp; omega) | (simp; assumption)) | ((repeat' (first | with_reducible apply hO | with_reducible apply Own.set)); all_goals (repeat (first | with_reducible exact Put.here _ _ _ | with_reducible apply Put.there)); done))))); clear hO; intro w9 hO; (try dsimp only [List.set] at hO); ((try clear hf); have hf := hO.facts; (try simp only [FX, Nat.zero_add, Nat.reduceAdd, and_true, true_and, List.map_cons, List.map_nil, List.cons_append, List.nil_append] at hf))))
      (refine wp_region_run (fun _ => True) (fun _ _ _ _ => trivial) trivial ((1, 0) :: (1, 1) :: (0, 2) :: (1, 3) :: (3, 4) :: (0, 5) :: []) (by kernel_rfl) (by kernel_rfl) rfl (fun _ _ d _ _ h => by cases d <;> exact h) ?_; intro w9 hx9; replace hO := hO.ext hx9; clear hx9; ((try clear hf); have hf := hO.facts; (try simp only [FX, Nat.zero_add, Nat.reduceAdd, and_true, true_and, List.map_cons, List.map_nil, List.cons_append, List.nil_append] at hf)); (repeat (first | (apply inRun_p _ rfl rfl rfl; focus (intro w8 K8 hK8; (repeat (first | go_skip | go_guarded | go_step)); exact hK8)) | (apply inRun_l _ rfl rfl rfl; focus (intro w8 hx8 K8 hK8; have hO := hO.ext hx8; ((try clear hf); have hf := hO.facts; (try simp only [FX, Nat.zero_add, Nat.reduceAdd, and_true, true_and, List.map_cons, List.map_nil, List.cons_append, List.nil_append] at hf)); skip; (repeat (first | go_skip | go_guarded | go_step)); exact hK8)) | (apply inRun_q _ rfl; (focus (intro w8 hx8 K8 hK8; have hO := hO.ext hx8; ((try clear hf); have hf := hO.facts; (try simp only [FX, Nat.zero_add, Nat.reduceAdd, and_true, true_and, List.map_cons, List.map_nil, List.cons_append, List.nil_append] at hf)); (repeat (first | go_skip | go_guarded | go_step | (go_at_call 20; (with_reducible refine Reads.use hO (HR) (by repeat (first | with_reducible exact Takes.nil _ | with_reducible apply Takes.cons | with_reducible exact Pick.here _ _ | with_reducible apply Pick.there)) ?_; intro w7 hx7 hO7; clear hO7; dsimp only)))); (first | exact (by repeat (first | exact Ext.refl _ | assumption | refine Ext.of_drew ?_ | refine Ext.alloc ?_ _ | refine Ext.drew ?_ | refine Ext.trans ?_ (by assumption))) | exact hK8 _ (by repeat (first | exact Ext.refl _ | assumption | refine Ext.of_drew ?_ | refine Ext.alloc ?_ _ | refine Ext.drew ?_ | refine Ext.trans ?_ (by assumption)))))); (focus (exact rfl)); intro w8 hx8; replace hO := hO.ext hx8; clear hx8; ((try clear hf); have hf := hO.facts; (try simp only [FX, Nat.zero_add, Nat.reduceAdd, and_true, true_and, List.map_cons, List.map_nil, List.cons_append, List.nil_append] at hf))))))
      refine inRun_nil ?_
      go_wp2_with (first | ((first | with_reducible refine wpList_alloc_own hO ?_ | with_reducible refine wpList_drew_own hO ?_ | with_reducible refine wp_alloc_own hO ?_ | with_reducible refine wp_drew_own hO ?_ | with_reducible refine bodyPost_alloc_own hO ?_ | with_reducible refine bodyPost_drew_own hO ?_ | ((first | with_reducible apply wpList_set_own | with_reducible apply wp_set_own | with_reducible apply bodyPost_set_own); (focus (first | (with_reducible apply Own.set; (focus (with_reducible apply hO)); (repeat (first | with_reducible exact Put.here _ _ _ | with_reducible apply Put.there)); done) | (with_reducible apply Own.setRow; (focus (with_reducible apply hO)); (focus (repeat (first | with_reducible exact Put.here _ _ _ | with_reducible apply Put.there))); first | assumption | (simp; omega) | (simp; assumption)) | ((repeat' (first | with_reducible apply hO | with_reducible apply Own.set)); all_goals (repeat (first | with_reducible exact Put.here _ _ _ | with_reducible apply Put.there)); done))))); clear hO; intro w9 hO; (try dsimp only [List.set] at hO); ((try clear hf); have hf := hO.facts; (try simp only [FX, Nat.zero_add, Nat.reduceAdd, and_true, true_and, List.map_cons, List.map_nil, List.cons_append, List.nil_append] at hf))))
      go_ret
      exact ⟨(), rfl, hO.give (by repeat (first | with_reducible exact Takes.nil _ | with_reducible apply Takes.cons | with_reducible exact Pick.here _ _ | with_reducible apply Pick.there)) (by repeat (first | exact Keeps.here _ | apply Keeps.skip))⟩
    · have hf0 : addN C ((many : Int) - u) = faultN C := by unfold addN; rw [if_neg (by omega), if_neg (by omega)]
      rw [hf0] at hb ⊢
      clear hf0
      have HF := Lib.hid (rfl : faultN C = faultN C)
      generalize hN : faultN C = N at HF hb ⊢
      clear HF
      have HN := Lib.hid hN
      clear hN
      ((try clear hf); have hf := hO.facts; (try simp only [FX, Nat.zero_add, Nat.reduceAdd, and_true, true_and, List.map_cons, List.map_nil, List.cons_append, List.nil_append] at hf))
      go_enter Tryd.func23, Tryd.ntmps23
      go_wp2_with (first | ((first | with_reducible refine wpList_alloc_own hO ?_ | with_reducible refine wpList_drew_own hO ?_ | with_reducible refine wp_alloc_own hO ?_ | with_reducible refine wp_drew_own hO ?_ | with_reducible refine bodyPost_alloc_own hO ?_ | with_reducible refine bodyPost_drew_own hO ?_ | ((first | with_reducible apply wpList_set_own | with_reducible apply wp_set_own | with_reducible apply bodyPost_set_own); (focus (first | (with_reducible apply Own.set; (focus (with_reducible apply hO)); (repeat (first | with_reducible exact Put.here _ _ _ | with_reducible apply Put.there)); done) | (with_reducible apply Own.setRow; (focus (with_reducible apply hO)); (focus (repeat (first | with_reducible exact Put.here _ _ _ | with_reducible apply Put.there))); first | assumption | (simp; omega) | (simp; assumption)) | ((repeat' (first | with_reducible apply hO | with_reducible apply Own.set)); all_goals (repeat (first | with_reducible exact Put.here _ _ _ | with_reducible apply Put.there)); done))))); clear hO; intro w9 hO; (try dsimp only [List.set] at hO); ((try clear hf); have hf := hO.facts; (try simp only [FX, Nat.zero_add, Nat.reduceAdd, and_true, true_and, List.map_cons, List.map_nil, List.cons_append, List.nil_append] at hf))))
      (refine wp_region_run (fun _ => True) (fun _ _ _ _ => trivial) trivial ((1, 0) :: (1, 1) :: (0, 2) :: (1, 3) :: (3, 4) :: (0, 5) :: []) (by kernel_rfl) (by kernel_rfl) rfl (fun _ _ d _ _ h => by cases d <;> exact h) ?_; intro w9 hx9; replace hO := hO.ext hx9; clear hx9; ((try clear hf); have hf := hO.facts; (try simp only [FX, Nat.zero_add, Nat.reduceAdd, and_true, true_and, List.map_cons, List.map_nil, List.cons_append, List.nil_append] at hf)); (repeat (first | (apply inRun_p _ rfl rfl rfl; focus (intro w8 K8 hK8; (repeat (first | go_skip | go_guarded | go_step)); exact hK8)) | (apply inRun_l _ rfl rfl rfl; focus (intro w8 hx8 K8 hK8; have hO := hO.ext hx8; ((try clear hf); have hf := hO.facts; (try simp only [FX, Nat.zero_add, Nat.reduceAdd, and_true, true_and, List.map_cons, List.map_nil, List.cons_append, List.nil_append] at hf)); skip; (repeat (first | go_skip | go_guarded | go_step)); exact hK8)) | (apply inRun_q _ rfl; (focus (intro w8 hx8 K8 hK8; have hO := hO.ext hx8; ((try clear hf); have hf := hO.facts; (try simp only [FX, Nat.zero_add, Nat.reduceAdd, and_true, true_and, List.map_cons, List.map_nil, List.cons_append, List.nil_append] at hf)); (repeat (first | go_skip | go_guarded | go_step | (go_at_call 20; (with_reducible refine Reads.use hO (HR) (by repeat (first | with_reducible exact Takes.nil _ | with_reducible apply Takes.cons | with_reducible exact Pick.here _ _ | with_reducible apply Pick.there)) ?_; intro w7 hx7 hO7; clear hO7; dsimp only)))); (first | exact (by repeat (first | exact Ext.refl _ | assumption | refine Ext.of_drew ?_ | refine Ext.alloc ?_ _ | refine Ext.drew ?_ | refine Ext.trans ?_ (by assumption))) | exact hK8 _ (by repeat (first | exact Ext.refl _ | assumption | refine Ext.of_drew ?_ | refine Ext.alloc ?_ _ | refine Ext.drew ?_ | refine Ext.trans ?_ (by assumption)))))); (focus (exact rfl)); intro w8 hx8; replace hO := hO.ext hx8; clear hx8; ((try clear hf); have hf := hO.facts; (try simp only [FX, Nat.zero_add, Nat.reduceAdd, and_true, true_and, List.map_cons, List.map_nil, List.cons_append, List.nil_append] at hf))))))
      refine inRun_nil ?_
      go_wp2_with (first | ((first | with_reducible refine wpList_alloc_own hO ?_ | with_reducible refine wpList_drew_own hO ?_ | with_reducible refine wp_alloc_own hO ?_ | with_reducible refine wp_drew_own hO ?_ | with_reducible refine bodyPost_alloc_own hO ?_ | with_reducible refine bodyPost_drew_own hO ?_ | ((first | with_reducible apply wpList_set_own | with_reducible apply wp_set_own | with_reducible apply bodyPost_set_own); (focus (first | (with_reducible apply Own.set; (focus (with_reducible apply hO)); (repeat (first | with_reducible exact Put.here _ _ _ | with_reducible apply Put.there)); done) | (with_reducible apply Own.setRow; (focus (with_reducible apply hO)); (focus (repeat (first | with_reducible exact Put.here _ _ _ | with_reducible apply Put.there))); first | assumption | (simp; omega) | (simp; assumption)) | ((repeat' (first | with_reducible apply hO | with_reducible apply Own.set)); all_goals (repeat (first | with_reducible exact Put.here _ _ _ | with_reducible apply Put.there)); done))))); clear hO; intro w9 hO; (try dsimp only [List.set] at hO); ((try clear hf); have hf := hO.facts; (try simp only [FX, Nat.zero_add, Nat.reduceAdd, and_true, true_and, List.map_cons, List.map_nil, List.cons_append, List.nil_append] at hf))))
      obtain ⟨bl, hg9⟩ := (hO.pick (r := Var _ [.pointer (some ⟨q, 0, none⟩)] 32) (by repeat (first | with_reducible exact Pick.here _ _ | with_reducible apply Pick.there))).named
      rw [← hg9] at hO ⊢; clear hg9
      obtain ⟨bc, hg9⟩ := (hO.pick (r := Var _ [.slice a n cap] 44) (by repeat (first | with_reducible exact Pick.here _ _ | with_reducible apply Pick.there))).named
      rw [← hg9] at hO ⊢; clear hg9
      have hO9 := hO
      clear hO hf
      go_loopw [25] (fun v wr => ∃ (i : Nat), v = .int .i64 i ∧ i ≤ n ∧ Hid (faultN (C.drop i) = N) ∧ Own S W wr ([Var bl [.pointer (some ⟨q, 0, none⟩)] 32, Var bc [.slice a n cap] 44, Var q [.pointer (some ⟨p, 0, none⟩), .int .i64 frm, .int .i64 many, .int .i64 first, .int .i64 u] 108, .imm φ] ++ L0)) (fun v _ => n - (intOf v).toNat)
      case atStart => exact ⟨0, rfl, by omega, HN, (by (try simp only [List.cons_append, List.nil_append]); exact hO9.cut (by repeat (first | with_reducible apply Sub.cons | with_reducible exact Pick.here _ _ | with_reducible apply Pick.there | with_reducible apply Sub.base | with_reducible exact Keeps.here _ | with_reducible apply Keeps.skip)))⟩
      case round =>
        clear hO9
        obtain ⟨i, rfl, hi, HI, hO⟩ := hrel
        rename World => w1
        simp only [List.cons_append, List.nil_append] at hO
        ((try clear hf); have hf := hO.facts; (try simp only [FX, Nat.zero_add, Nat.reduceAdd, and_true, true_and, List.map_cons, List.map_nil, List.cons_append, List.nil_append] at hf))
        by_cases hlt : i < n
        · have hi2 : i < C.length := by omega
          obtain ⟨b, off, rfl⟩ := ChAt.some (a := a) ((hφ _ (Own.immOf (φ := φ) hO (by repeat (first | with_reducible exact Pick.here _ _ | with_reducible apply Pick.there)))).2) (by omega)
          obtain ⟨c0, c1, c2⟩ := ChAt.at (w := w1) (l := C) (b := b) (off := off) ((hφ _ (Own.immOf (φ := φ) hO (by repeat (first | with_reducible exact Pick.here _ _ | with_reducible apply Pick.there)))).2) hi2
          obtain ⟨hks, hvs⟩ := HSZ.out _ (List.getElem_mem hi2)
          have hI := HI.out
          rw [List.drop_eq_getElem_cons hi2, faultN] at hI
          clear HI
          generalize C[i] = c at *
          have HB := fun w h => chCheck_any c w h hks hvs
          by_cases h0 : chN c = 0
          · rw [if_pos h0] at hI
            have HI := Lib.hid hI
            rw [h0, show errV 0 = .nilIface from rfl] at HB
            unfold Ch.v at HB
            clear hI h0
            go_wp2_with (first | (go_at_call 69; (with_reducible apply Calls.mono (HB _ (hφ _ (Own.immOf (φ := φ) hO (by repeat (first | with_reducible exact Pick.here _ _ | with_reducible apply Pick.there)))).1); rintro e8 w8 ⟨rfl, hx8⟩; replace hO := hO.ext hx8; clear hx8; dsimp only; ((try clear hf); have hf := hO.facts; (try simp only [FX, Nat.zero_add, Nat.reduceAdd, and_true, true_and, List.map_cons, List.map_nil, List.cons_append, List.nil_append] at hf)))) | ((first | with_reducible refine wpList_alloc_own hO ?_ | with_reducible refine wpList_drew_own hO ?_ | with_reducible refine wp_alloc_own hO ?_ | with_reducible refine wp_drew_own hO ?_ | with_reducible refine bodyPost_alloc_own hO ?_ | with_reducible refine bodyPost_drew_own hO ?_ | ((first | with_reducible apply wpList_set_own | with_reducible apply wp_set_own | with_reducible apply bodyPost_set_own); (focus (first | (with_reducible apply Own.set; (focus (with_reducible apply hO)); (repeat (first | with_reducible exact Put.here _ _ _ | with_reducible apply Put.there)); done) | (with_reducible apply Own.setRow; (focus (with_reducible apply hO)); (focus (repeat (first | with_reducible exact Put.here _ _ _ | with_reducible apply Put.there))); first | assumption | (simp; omega) | (simp; assumption)) | ((repeat' (first | with_reducible apply hO | with_reducible apply Own.set)); all_goals (repeat (first | with_reducible exact Put.here _ _ _ | with_reducible apply Put.there)); done))))); clear hO; intro w9 hO; (try dsimp only [List.set] at hO); ((try clear hf); have hf := hO.facts; (try simp only [FX, Nat.zero_add, Nat.reduceAdd, and_true, true_and, List.map_cons, List.map_nil, List.cons_append, List.nil_append] at hf))))
            refine ⟨⟨i + 1, by go_num, by omega, HI, ?_⟩, by simp [intOf]; omega⟩
            (try simp only [List.cons_append, List.nil_append])
            exact hO.cut (by repeat (first | with_reducible apply Sub.cons | with_reducible exact Pick.here _ _ | with_reducible apply Pick.there | with_reducible apply Sub.base | with_reducible exact Keeps.here _ | with_reducible apply Keeps.skip))
          · rw [if_neg h0] at hI
            rw [hI] at HB
            obtain ⟨m, rfl⟩ : ∃ m, N = m + 1 := ⟨N - 1, by omega⟩
            rw [show errV (m + 1) = .iface 97 (.int .i64 ((m + 1 : Nat) : Int)) from rfl] at HB
            unfold Ch.v at HB
            clear hI h0
            go_wp2_with (first | (go_at_call 69; (with_reducible apply Calls.mono (HB _ (hφ _ (Own.immOf (φ := φ) hO (by repeat (first | with_reducible exact Pick.here _ _ | with_reducible apply Pick.there)))).1); rintro e8 w8 ⟨rfl, hx8⟩; replace hO := hO.ext hx8; clear hx8; dsimp only; ((try clear hf); have hf := hO.facts; (try simp only [FX, Nat.zero_add, Nat.reduceAdd, and_true, true_and, List.map_cons, List.map_nil, List.cons_append, List.nil_append] at hf)))) | ((first | with_reducible refine wpList_alloc_own hO ?_ | with_reducible refine wpList_drew_own hO ?_ | with_reducible refine wp_alloc_own hO ?_ | with_reducible refine wp_drew_own hO ?_ | with_reducible refine bodyPost_alloc_own hO ?_ | with_reducible refine bodyPost_drew_own hO ?_ | ((first | with_reducible apply wpList_set_own | with_reducible apply wp_set_own | with_reducible apply bodyPost_set_own); (focus (first | (with_reducible apply Own.set; (focus (with_reducible apply hO)); (repeat (first | with_reducible exact Put.here _ _ _ | with_reducible apply Put.there)); done) | (with_reducible apply Own.setRow; (focus (with_reducible apply hO)); (focus (repeat (first | with_reducible exact Put.here _ _ _ | with_reducible apply Put.there))); first | assumption | (simp; omega) | (simp; assumption)) | ((repeat' (first | with_reducible apply hO | with_reducible apply Own.set)); all_goals (repeat (first | with_reducible exact Put.here _ _ _ | with_reducible apply Put.there)); done))))); clear hO; intro w9 hO; (try dsimp only [List.set] at hO); ((try clear hf); have hf := hO.facts; (try simp only [FX, Nat.zero_add, Nat.reduceAdd, and_true, true_and, List.map_cons, List.map_nil, List.cons_append, List.nil_append] at hf))))
            go_ret
            exact ⟨(), rfl, hO.give (by repeat (first | with_reducible exact Takes.nil _ | with_reducible apply Takes.cons | with_reducible exact Pick.here _ _ | with_reducible apply Pick.there)) (by repeat (first | exact Keeps.here _ | apply Keeps.skip))⟩
        · have hI := HI.out
          rw [List.drop_of_length_le (by omega), faultN] at hI
          omega
set_option maxHeartbeats 4000000 in
set_option maxRecDepth 100000 in
theorem addFault_any (a : Option Addr) (n cap : Nat) (C : List Ch) (room : Int) (w : World) (hC : C.length = n) (hn : n ≤ 9223372036854775806) (hsz : ∀ c ∈ C, c.key.size ≤ 300 ∧ c.val.size ≤ 1000) (hA : ValsAt w a (chs C)) :
    Calls Tryd.prog 22 #[.slice a n cap, .int .i64 room] w fun e w' => e = .returned (.int .i64 (addN C room)) ∧ Ext w w' := by
  have hO : Own (fun _ => False) w w [.imm fun w => ValsAt w a (chs C)] := Own.base w _ fun _ hw' => vals_up hA hw'
  have HSZ := Lib.hid hsz
  clear hsz hA
  by_cases h12 : 12 < n
  · rw [show addN C room = 2 from if_pos (by omega)]
    ((try clear hf); have hf := hO.facts; (try simp only [FX, Nat.zero_add, Nat.reduceAdd, and_true, true_and, List.map_cons, List.map_nil, List.cons_append, List.nil_append] at hf))
    go_enter Tryd.func22, Tryd.ntmps22
    go_wp2_with (first | ((first | with_reducible refine wpList_alloc_own hO ?_ | with_reducible refine wpList_drew_own hO ?_ | with_reducible refine wp_alloc_own hO ?_ | with_reducible refine wp_drew_own hO ?_ | with_reducible refine bodyPost_alloc_own hO ?_ | with_reducible refine bodyPost_drew_own hO ?_ | ((first | with_reducible apply wpList_set_own | with_reducible apply wp_set_own | with_reducible apply bodyPost_set_own); (focus (first | (with_reducible apply Own.set; (focus (with_reducible apply hO)); (repeat (first | with_reducible exact Put.here _ _ _ | with_reducible apply Put.there)); done) | (with_reducible apply Own.setRow; (focus (with_reducible apply hO)); (focus (repeat (first | with_reducible exact Put.here _ _ _ | with_reducible apply Put.there))); first | assumption | (simp; omega) | (simp; assumption)) | ((repeat' (first | with_reducible apply hO | with_reducible apply Own.set)); all_goals (repeat (first | with_reducible exact Put.here _ _ _ | with_reducible apply Put.there)); done))))); clear hO; intro w9 hO; (try dsimp only [List.set] at hO); ((try clear hf); have hf := hO.facts; (try simp only [FX, Nat.zero_add, Nat.reduceAdd, and_true, true_and, List.map_cons, List.map_nil, List.cons_append, List.nil_append] at hf))))
    go_ret
    exact ⟨rfl, hO.toExt⟩
  · by_cases hroom : room < n + 1
    · rw [show addN C room = 8 from by unfold addN; rw [if_neg (by omega), if_pos (by omega)]]
      ((try clear hf); have hf := hO.facts; (try simp only [FX, Nat.zero_add, Nat.reduceAdd, and_true, true_and, List.map_cons, List.map_nil, List.cons_append, List.nil_append] at hf))
      go_enter Tryd.func22, Tryd.ntmps22
      go_wp2_with (first | ((first | with_reducible refine wpList_alloc_own hO ?_ | with_reducible refine wpList_drew_own hO ?_ | with_reducible refine wp_alloc_own hO ?_ | with_reducible refine wp_drew_own hO ?_ | with_reducible refine bodyPost_alloc_own hO ?_ | with_reducible refine bodyPost_drew_own hO ?_ | ((first | with_reducible apply wpList_set_own | with_reducible apply wp_set_own | with_reducible apply bodyPost_set_own); (focus (first | (with_reducible apply Own.set; (focus (with_reducible apply hO)); (repeat (first | with_reducible exact Put.here _ _ _ | with_reducible apply Put.there)); done) | (with_reducible apply Own.setRow; (focus (with_reducible apply hO)); (focus (repeat (first | with_reducible exact Put.here _ _ _ | with_reducible apply Put.there))); first | assumption | (simp; omega) | (simp; assumption)) | ((repeat' (first | with_reducible apply hO | with_reducible apply Own.set)); all_goals (repeat (first | with_reducible exact Put.here _ _ _ | with_reducible apply Put.there)); done))))); clear hO; intro w9 hO; (try dsimp only [List.set] at hO); ((try clear hf); have hf := hO.facts; (try simp only [FX, Nat.zero_add, Nat.reduceAdd, and_true, true_and, List.map_cons, List.map_nil, List.cons_append, List.nil_append] at hf))))
      go_ret
      exact ⟨rfl, hO.toExt⟩
    · rw [show addN C room = faultN C by unfold addN; rw [if_neg (by omega), if_neg (by omega)]]
      have HF := Lib.hid (rfl : faultN C = faultN C)
      generalize hN : faultN C = N at HF ⊢
      clear HF
      have HN := Lib.hid hN
      clear hN
      ((try clear hf); have hf := hO.facts; (try simp only [FX, Nat.zero_add, Nat.reduceAdd, and_true, true_and, List.map_cons, List.map_nil, List.cons_append, List.nil_append] at hf))
      go_enter Tryd.func22, Tryd.ntmps22
      go_wp2_with (first | ((first | with_reducible refine wpList_alloc_own hO ?_ | with_reducible refine wpList_drew_own hO ?_ | with_reducible refine wp_alloc_own hO ?_ | with_reducible refine wp_drew_own hO ?_ | with_reducible refine bodyPost_alloc_own hO ?_ | with_reducible refine bodyPost_drew_own hO ?_ | ((first | with_reducible apply wpList_set_own | with_reducible apply wp_set_own | with_reducible apply bodyPost_set_own); (focus (first | (with_reducible apply Own.set; (focus (with_reducible apply hO)); (repeat (first | with_reducible exact Put.here _ _ _ | with_reducible apply Put.there)); done) | (with_reducible apply Own.setRow; (focus (with_reducible apply hO)); (focus (repeat (first | with_reducible exact Put.here _ _ _ | with_reducible apply Put.there))); first | assumption | (simp; omega) | (simp; assumption)) | ((repeat' (first | with_reducible apply hO | with_reducible apply Own.set)); all_goals (repeat (first | with_reducible exact Put.here _ _ _ | with_reducible apply Put.there)); done))))); clear hO; intro w9 hO; (try dsimp only [List.set] at hO); ((try clear hf); have hf := hO.facts; (try simp only [FX, Nat.zero_add, Nat.reduceAdd, and_true, true_and, List.map_cons, List.map_nil, List.cons_append, List.nil_append] at hf))))
      have hO9 := hO
      clear hO hf
      go_loopw [5] (fun v wr => ∃ (i : Nat), v = .int .i64 i ∧ i ≤ n ∧ Hid (faultN (C.drop i) = N) ∧ Own (fun _ => False) w wr [.imm fun w => ValsAt w a (chs C)]) (fun v _ => n - (intOf v).toNat)
      case atStart => exact ⟨0, rfl, by omega, HN, hO9⟩
      case round =>
        clear hO9
        obtain ⟨i, rfl, hi, HI, hO⟩ := hrel
        rename World => w1
        ((try clear hf); have hf := hO.facts; (try simp only [FX, Nat.zero_add, Nat.reduceAdd, and_true, true_and, List.map_cons, List.map_nil, List.cons_append, List.nil_append] at hf))
        by_cases hlt : i < n
        · have hi2 : i < C.length := by omega
          obtain ⟨b, off, rfl⟩ := ChAt.some (a := a) hf (by omega)
          obtain ⟨c0, c1, c2⟩ := ChAt.at (w := w1) (l := C) (b := b) (off := off) hf hi2
          obtain ⟨hks, hvs⟩ := HSZ.out _ (List.getElem_mem hi2)
          have hI := HI.out
          rw [List.drop_eq_getElem_cons hi2, faultN] at hI
          clear HI
          generalize C[i] = c at *
          have HB := fun w => chFault_any c w hks hvs
          by_cases h0 : chN c = 0
          · rw [if_pos h0] at hI
            have HI := Lib.hid hI
            rw [h0] at HB
            unfold Ch.v at HB
            clear hI h0
            go_wp2_with (first | (go_at_call 68; (with_reducible apply Calls.mono (HB _); rintro e8 w8 ⟨rfl, hx8⟩; replace hO := hO.ext hx8; clear hx8; dsimp only; ((try clear hf); have hf := hO.facts; (try simp only [FX, Nat.zero_add, Nat.reduceAdd, and_true, true_and, List.map_cons, List.map_nil, List.cons_append, List.nil_append] at hf)))) | ((first | with_reducible refine wpList_alloc_own hO ?_ | with_reducible refine wpList_drew_own hO ?_ | with_reducible refine wp_alloc_own hO ?_ | with_reducible refine wp_drew_own hO ?_ | with_reducible refine bodyPost_alloc_own hO ?_ | with_reducible refine bodyPost_drew_own hO ?_ | ((first | with_reducible apply wpList_set_own | with_reducible apply wp_set_own | with_reducible apply bodyPost_set_own); (focus (first | (with_reducible apply Own.set; (focus (with_reducible apply hO)); (repeat (first | with_reducible exact Put.here _ _ _ | with_reducible apply Put.there)); done) | (with_reducible apply Own.setRow; (focus (with_reducible apply hO)); (focus (repeat (first | with_reducible exact Put.here _ _ _ | with_reducible apply Put.there))); first | assumption | (simp; omega) | (simp; assumption)) | ((repeat' (first | with_reducible apply hO | with_reducible apply Own.set)); all_goals (repeat (first | with_reducible exact Put.here _ _ _ | with_reducible apply Put.there)); done))))); clear hO; intro w9 hO; (try dsimp only [List.set] at hO); ((try clear hf); have hf := hO.facts; (try simp only [FX, Nat.zero_add, Nat.reduceAdd, and_true, true_and, List.map_cons, List.map_nil, List.cons_append, List.nil_append] at hf))))
            exact ⟨⟨i + 1, by go_num, by omega, HI, hO⟩, by simp [intOf]; omega⟩
          · rw [if_neg h0] at hI
            rw [hI] at HB
            have hN0 : 0 < N := by omega
            unfold Ch.v at HB
            clear hI h0
            go_wp2_with (first | (go_at_call 68; (with_reducible apply Calls.mono (HB _); rintro e8 w8 ⟨rfl, hx8⟩; replace hO := hO.ext hx8; clear hx8; dsimp only; ((try clear hf); have hf := hO.facts; (try simp only [FX, Nat.zero_add, Nat.reduceAdd, and_true, true_and, List.map_cons, List.map_nil, List.cons_append, List.nil_append] at hf)))) | ((first | with_reducible refine wpList_alloc_own hO ?_ | with_reducible refine wpList_drew_own hO ?_ | with_reducible refine wp_alloc_own hO ?_ | with_reducible refine wp_drew_own hO ?_ | with_reducible refine bodyPost_alloc_own hO ?_ | with_reducible refine bodyPost_drew_own hO ?_ | ((first | with_reducible apply wpList_set_own | with_reducible apply wp_set_own | with_reducible apply bodyPost_set_own); (focus (first | (with_reducible apply Own.set; (focus (with_reducible apply hO)); (repeat (first | with_reducible exact Put.here _ _ _ | with_reducible apply Put.there)); done) | (with_reducible apply Own.setRow; (focus (with_reducible apply hO)); (focus (repeat (first | with_reducible exact Put.here _ _ _ | with_reducible apply Put.there))); first | assumption | (simp; omega) | (simp; assumption)) | ((repeat' (first | with_reducible apply hO | with_reducible apply Own.set)); all_goals (repeat (first | with_reducible exact Put.here _ _ _ | with_reducible apply Put.there)); done))))); clear hO; intro w9 hO; (try dsimp only [List.set] at hO); ((try clear hf); have hf := hO.facts; (try simp only [FX, Nat.zero_add, Nat.reduceAdd, and_true, true_and, List.map_cons, List.map_nil, List.cons_append, List.nil_append] at hf))))
            go_ret
            exact ⟨rfl, hO.toExt⟩
        · have hI := HI.out
          rw [List.drop_of_length_le (by omega), faultN] at hI
          subst hI
          go_wp2_with (first | ((first | with_reducible refine wpList_alloc_own hO ?_ | with_reducible refine wpList_drew_own hO ?_ | with_reducible refine wp_alloc_own hO ?_ | with_reducible refine wp_drew_own hO ?_ | with_reducible refine bodyPost_alloc_own hO ?_ | with_reducible refine bodyPost_drew_own hO ?_ | ((first | with_reducible apply wpList_set_own | with_reducible apply wp_set_own | with_reducible apply bodyPost_set_own); (focus (first | (with_reducible apply Own.set; (focus (with_reducible apply hO)); (repeat (first | with_reducible exact Put.here _ _ _ | with_reducible apply Put.there)); done) | (with_reducible apply Own.setRow; (focus (with_reducible apply hO)); (focus (repeat (first | with_reducible exact Put.here _ _ _ | with_reducible apply Put.there))); first | assumption | (simp; omega) | (simp; assumption)) | ((repeat' (first | with_reducible apply hO | with_reducible apply Own.set)); all_goals (repeat (first | with_reducible exact Put.here _ _ _ | with_reducible apply Put.there)); done))))); clear hO; intro w9 hO; (try dsimp only [List.set] at hO); ((try clear hf); have hf := hO.facts; (try simp only [FX, Nat.zero_add, Nat.reduceAdd, and_true, true_and, List.map_cons, List.map_nil, List.cons_append, List.nil_append] at hf))))
          go_ret
          exact ⟨rfl, hO.toExt⟩
end Go.Proofs.YtpdnlgopbnkdhaaDoor
