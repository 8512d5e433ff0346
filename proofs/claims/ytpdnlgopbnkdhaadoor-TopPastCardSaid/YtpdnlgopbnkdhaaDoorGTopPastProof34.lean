/- Texts Grown, TopV, TopPast of this claim, laid together. -/
import Derived.Test.YtpdnlgopbnkdhaaDoorGTopPastProof33
import Derived.Test.YtpdnlgopbnkdhaaDoorGTopPastProof30
import Derived.Test.YtpdnlgopbnkdhaaDoorGTopPastProof25
import Derived.Test.YtpdnlgopbnkdhaaDoorGTopPastProof12
set_option linter.unusedVariables false
set_option linter.unusedSimpArgs false
namespace Go.Proofs.YtpdnlgopbnkdhaaDoor
open Go.RowKit
noncomputable def gS (rows : List Rw) (D : List DV) (i : Nat) : Nat × List (ByteArray × List Vn) := ((dss D).take i).foldl growS (0, newV rows)
theorem gS_step {rows : List Rw} {D : List DV} {i : Nat} (h : i < D.length) : gS rows D (i + 1) = growS (gS rows D i) D[i].2.2 := by
  unfold gS dss
  rw [List.take_succ_eq_append_getElem (by simpa using h), List.foldl_append, List.getElem_map]
  rfl
theorem gS_all {rows : List Rw} {D : List DV} {i : Nat} (h : D.length ≤ i) : gS rows D i = growV rows (dss D) := by
  unfold gS growV
  rw [List.take_of_length_le (by unfold dss; simpa using h)]
theorem gS_len {rows : List Rw} {D : List DV} {i : Nat} (hD : ∀ d ∈ D, d.2.2.length ≤ 14) : (gS rows D i).1 ≤ i ∧ (gS rows D i).2.length ≤ rows.length + i * 14 ∧ cntV (gS rows D i).2 ≤ rows.length + i * 14 := by
  have h1 := grows_len ((dss D).take i) (0, newV rows) (t := 14) fun C hC => by
    obtain ⟨d, hd, rfl⟩ := List.mem_map.1 (List.mem_of_mem_take hC)
    exact hD d hd
  have h2 : ((dss D).take i).length ≤ i := List.length_take_le _ _
  have h3 : ((dss D).take i).length * 14 ≤ i * 14 := Nat.mul_le_mul_right _ h2
  have h4 := cnt_new rows
  have h5 : (newV rows).length = rows.length := by unfold newV; rw [List.length_map]
  unfold gS
  simp only at h1
  omega
set_option maxHeartbeats 2000000 in
set_option maxRecDepth 100000 in
theorem grown_does (ra : Option Addr) (n rc : Nat) (rows : List Rw) (da : Option Addr) (m dc : Nat) (D : List DV) (hrl : rows.length = n) (hn : n ≤ 1000) (hup : RUps rows) (hdl : D.length = m) (hm : m ≤ 100)
    (hs : ∀ d ∈ D, d.2.2.length ≤ 14 ∧ ∀ c ∈ d.2.2, c.key.size ≤ 60 ∧ c.val.size ≤ 100) {φ : World → Prop} (hφ : ∀ w, φ w → LibOk w ∧ ValsAt w ra (rows.flatMap rwC) ∧ DLAt w da D) :
    Does Tryd.prog 51 #[.slice ra n rc, .slice da m dc] [.imm φ] (fun p : Nat => (.pointer (some ⟨p, 0, none⟩), [VerR p (growV rows (dss D)).1 (growV rows (dss D)).2, .imm φ])) := by
  have HN := vnew_does ra n rc rows hrl (by omega) hup.keys
  have HSS := Lib.hid hs
  have HGL := fun i => Lib.hid (gS_len (rows := rows) (i := i) fun d hd => (hs d hd).1)
  clear hs
  intro S W w L0 hO; simp only [List.cons_append, List.nil_append] at hO
  replace hO := hO.again.imp (ψ := fun w => ValsAt w ra (rows.flatMap rwC)) fun w h => (hφ w h).2.1
  ((try clear hf); have hf := hO.facts; (try simp only [FX, Nat.zero_add, Nat.reduceAdd, and_true, true_and, List.map_cons, List.map_nil, List.cons_append, List.nil_append] at hf))
  go_enter Tryd.func51, Tryd.ntmps51
  go_wp2_with (first | (go_at_call 26; (with_reducible apply Does.use hO (HN); (focus (repeat (first | with_reducible exact Takes.nil _ | with_reducible apply Takes.cons | with_reducible exact Pick.here _ _ | with_reducible apply Pick.there))); clear hO; intro x9 w9 hO; dsimp only at hO ⊢; simp only [List.cons_append, List.nil_append] at hO; ((try clear hf); have hf := hO.facts; (try simp only [FX, Nat.zero_add, Nat.reduceAdd, and_true, true_and, List.map_cons, List.map_nil, List.cons_append, List.nil_append] at hf)); rename Nat => p)) | ((first | with_reducible refine wpList_alloc_own hO ?_ | with_reducible refine wpList_drew_own hO ?_ | with_reducible refine wp_alloc_own hO ?_ | with_reducible refine wp_drew_own hO ?_ | with_reducible refine bodyPost_alloc_own hO ?_ | with_reducible refine bodyPost_drew_own hO ?_ | ((first | with_reducible apply wpList_set_own | with_reducible apply wp_set_own | with_reducible apply bodyPost_set_own); (focus (first | (with_reducible apply Own.set; (focus (with_reducible apply hO)); (repeat (first | with_reducible exact Put.here _ _ _ | with_reducible apply Put.there)); done) | (with_reducible apply Own.setRow; (focus (with_reducible apply hO)); (focus (repeat (first | with_reducible exact Put.here _ _ _ | with_reducible apply Put.there))); first | assumption | (simp; omega) | (simp; assumption)) | ((repeat' (first | with_reducible apply hO | with_reducible apply Own.set)); all_goals (repeat (first | with_reducible exact Put.here _ _ _ | with_reducible apply Put.there)); done))))); clear hO; intro w9 hO; (try dsimp only [List.set] at hO); ((try clear hf); have hf := hO.facts; (try simp only [FX, Nat.zero_add, Nat.reduceAdd, and_true, true_and, List.map_cons, List.map_nil, List.cons_append, List.nil_append] at hf))))
  rename Nat => p
  have hO9 := hO
  clear hO hf HN
  go_loopw [6] (fun v wr => ∃ i : Nat, v = .int .i64 i ∧ i ≤ m ∧ Own S W wr ([VerR p (gS rows D i).1 (gS rows D i).2, .imm φ] ++ L0)) (fun v _ => m - (intOf v).toNat)
  case atStart => exact ⟨0, rfl, by omega, by (try simp only [List.cons_append, List.nil_append]); exact (show Own S W _ (VerR p 0 (newV rows) :: .imm φ :: L0) from hO9.cut (by repeat (first | with_reducible apply Sub.cons | with_reducible exact Pick.here _ _ | with_reducible apply Pick.there | with_reducible apply Sub.base | with_reducible exact Keeps.here _ | with_reducible apply Keeps.skip)))⟩
  case round =>
    clear hO9
    obtain ⟨i, rfl, hi, hO⟩ := hrel
    rename World => w1
    simp only [List.cons_append, List.nil_append] at hO
    ((try clear hf); have hf := hO.facts; (try simp only [FX, Nat.zero_add, Nat.reduceAdd, and_true, true_and, List.map_cons, List.map_nil, List.cons_append, List.nil_append] at hf))
    by_cases hlt : i < m
    · have hi2 : i < D.length := by omega
      have hcd : (D.map dv)[i]? = some (dv D[i]) := by rw [List.getElem?_map, List.getElem?_eq_getElem hi2]; rfl
      obtain ⟨b, off, rfl⟩ := ValsAt.some (hφ _ (Own.immOf (φ := φ) hO (by repeat (first | with_reducible exact Pick.here _ _ | with_reducible apply Pick.there)))).2.2.1 hcd
      have hcell := fun w (h : φ w) => show w.cell? ⟨b, off + i, none⟩ = some (dv D[i]) from ValsAt.get (hφ w h).2.2.1 hcd
      have hch := fun w (h : φ w) => (hφ w h).2.2.2 _ (List.getElem_mem hi2)
      obtain ⟨hx14, hxc⟩ := HSS.out _ (List.getElem_mem hi2)
      have hst := gS_step (rows := rows) hi2
      obtain ⟨g1, g2, g3⟩ := (HGL i).out
      clear hcd
      generalize D[i] = x at *
      obtain ⟨xa, xc, xl⟩ := x
      dsimp only [dv] at hcell hch hx14 hxc hst
      have HST := Lib.hid hst
      clear hst
      have hG : ∀ e ∈ (gS rows D i).2, e.2.length ≤ 100000 := fun e he => by have := cnt_mem he; omega
      have HC := vcommit_does p (gS rows D i).1 (gS rows D i).2 xa xl.length xc xl rfl (by omega) (fun c hc => ⟨by have := (hxc c hc).1; omega, by have := (hxc c hc).2; omega⟩) (by omega) hG (φ := φ) fun w h => ⟨(hφ w h).1, hch w h⟩
      clear hG hxc g1 g2 g3
      have c0 := hcell _ (Own.immOf (φ := φ) hO (by repeat (first | with_reducible exact Pick.here _ _ | with_reducible apply Pick.there)))
      go_wp2_with (first | (go_at_call 27; (with_reducible apply Does.use hO (HC); (focus (repeat (first | with_reducible exact Takes.nil _ | with_reducible apply Takes.cons | with_reducible exact Pick.here _ _ | with_reducible apply Pick.there))); clear hO; intro x9 w9 hO; dsimp only at hO ⊢; simp only [List.cons_append, List.nil_append] at hO; ((try clear hf); have hf := hO.facts; (try simp only [FX, Nat.zero_add, Nat.reduceAdd, and_true, true_and, List.map_cons, List.map_nil, List.cons_append, List.nil_append] at hf)))) | ((first | with_reducible refine wpList_alloc_own hO ?_ | with_reducible refine wpList_drew_own hO ?_ | with_reducible refine wp_alloc_own hO ?_ | with_reducible refine wp_drew_own hO ?_ | with_reducible refine bodyPost_alloc_own hO ?_ | with_reducible refine bodyPost_drew_own hO ?_ | ((first | with_reducible apply wpList_set_own | with_reducible apply wp_set_own | with_reducible apply bodyPost_set_own); (focus (first | (with_reducible apply Own.set; (focus (with_reducible apply hO)); (repeat (first | with_reducible exact Put.here _ _ _ | with_reducible apply Put.there)); done) | (with_reducible apply Own.setRow; (focus (with_reducible apply hO)); (focus (repeat (first | with_reducible exact Put.here _ _ _ | with_reducible apply Put.there))); first | assumption | (simp; omega) | (simp; assumption)) | ((repeat' (first | with_reducible apply hO | with_reducible apply Own.set)); all_goals (repeat (first | with_reducible exact Put.here _ _ _ | with_reducible apply Put.there)); done))))); clear hO; intro w9 hO; (try dsimp only [List.set] at hO); ((try clear hf); have hf := hO.facts; (try simp only [FX, Nat.zero_add, Nat.reduceAdd, and_true, true_and, List.map_cons, List.map_nil, List.cons_append, List.nil_append] at hf))))
      refine ⟨⟨i + 1, by go_num, by omega, ?_⟩, by simp [intOf]; omega⟩
      rw [HST.out]
      (try simp only [List.cons_append, List.nil_append])
      exact (show Own S W _ (VerR p (comN (gS rows D i).1 xl) (commitV (gS rows D i).1 xl (gS rows D i).2) :: .imm φ :: L0) from hO.cut (by repeat (first | with_reducible apply Sub.cons | with_reducible exact Pick.here _ _ | with_reducible apply Pick.there | with_reducible apply Sub.base | with_reducible exact Keeps.here _ | with_reducible apply Keeps.skip)))
    · rw [gS_all (by omega)] at hO
      go_wp2_with (first | ((first | with_reducible refine wpList_alloc_own hO ?_ | with_reducible refine wpList_drew_own hO ?_ | with_reducible refine wp_alloc_own hO ?_ | with_reducible refine wp_drew_own hO ?_ | with_reducible refine bodyPost_alloc_own hO ?_ | with_reducible refine bodyPost_drew_own hO ?_ | ((first | with_reducible apply wpList_set_own | with_reducible apply wp_set_own | with_reducible apply bodyPost_set_own); (focus (first | (with_reducible apply Own.set; (focus (with_reducible apply hO)); (repeat (first | with_reducible exact Put.here _ _ _ | with_reducible apply Put.there)); done) | (with_reducible apply Own.setRow; (focus (with_reducible apply hO)); (focus (repeat (first | with_reducible exact Put.here _ _ _ | with_reducible apply Put.there))); first | assumption | (simp; omega) | (simp; assumption)) | ((repeat' (first | with_reducible apply hO | with_reducible apply Own.set)); all_goals (repeat (first | with_reducible exact Put.here _ _ _ | with_reducible apply Put.there)); done))))); clear hO; intro w9 hO; (try dsimp only [List.set] at hO); ((try clear hf); have hf := hO.facts; (try simp only [FX, Nat.zero_add, Nat.reduceAdd, and_true, true_and, List.map_cons, List.map_nil, List.cons_append, List.nil_append] at hf))))
      go_ret
      refine ⟨p, rfl, ?_⟩
      (try simp only [List.cons_append, List.nil_append])
      exact hO.cut (by repeat (first | with_reducible apply Sub.cons | with_reducible exact Pick.here _ _ | with_reducible apply Pick.there | with_reducible apply Sub.base | with_reducible exact Keeps.here _ | with_reducible apply Keeps.skip))
end Go.Proofs.YtpdnlgopbnkdhaaDoor
namespace Go.Proofs.YtpdnlgopbnkdhaaDoor
open Go.RowKit
theorem and1023 (a : Int) : 0 ≤ bits .and .i64 a 1023 ∧ bits .and .i64 a 1023 ≤ 1023 := by
  have h : (BitVec.ofInt 64 a &&& BitVec.ofInt 64 1023).toNat ≤ 1023 := by
    rw [BitVec.toNat_and]; exact Nat.le_trans Nat.and_le_right (by decide)
  show 0 ≤ IntKind.i64.wrap ((BitVec.ofInt 64 a &&& BitVec.ofInt 64 1023).toNat : Int) ∧ IntKind.i64.wrap ((BitVec.ofInt 64 a &&& BitVec.ofInt 64 1023).toNat : Int) ≤ 1023
  generalize (BitVec.ofInt 64 a &&& BitVec.ofInt 64 1023).toNat = n at *
  rw [IntKind.wrap_i64]; omega
theorem Own.varDv {S : Nat → Prop} {W w : World} {l : List Rs} {b : Nat} {v : Value} {t : TypeId} (h : Own S W w (Var b [v] t :: l)) : Own S W w (.imm (fun w => ValsAt w (some ⟨b, 0, none⟩) [v]) :: l) :=
  h.toImm (r := Var b [v] t) fun w hf => by
    refine .inr ⟨b, 0, rfl, fun i hi => ?_⟩
    exact Var.at (t := t) hf i _ (List.getElem?_eq_getElem hi)
/-- One deed of one change, laid out by the code itself. -/
theorem Own.closedG {S : Nat → Prop} {W w : World} {l l' : List Rs} {b d : Nat} {c : Ch} {cs : List Value} {t t' : TypeId} {ρ : World → Prop} (h : Own S W w l) (hc : c.cells = cs) (ht : Takes l [.imm ρ, Var b cs t, Var d [.slice (some ⟨b, 0, none⟩) 1 1] t'] l') :
    Own S W w (.imm (fun w => ρ w ∧ DLAt w (some ⟨d, 0, none⟩) [(some ⟨b, 0, none⟩, 1, [c])]) :: .imm ρ :: l') := by
  subst hc
  have h1 := h.take ht
  simp only [List.cons_append, List.nil_append] at h1
  have h2 := (h1.pick (.there _ (.here _ _))).varCh1
  have h3 := (h2.pick (.there _ (.there _ (.here _ _)))).varDv
  -- slice, change, ρ
  have h4 := h3.and
  have h5 := (h4.pick (.there _ (.here _ _))).again
  have h6 := (h5.pick (.there _ (.there _ (.here _ _))))
  have h7 := h6.and
  refine h7.imp fun w ⟨⟨h8, h9⟩, h10⟩ => ⟨h10, ?_, fun x hx => ?_⟩
  · exact h8
  · rw [List.mem_singleton.1 hx]; exact h9
def cTx : Ch := ⟨kTA, ⟨#[120]⟩, false⟩
theorem cTx_ok : chN cTx = 0 := by
  unfold chN
  rw [if_pos (show KeyOk cTx.key from kTA_key), if_neg (fun h => absurd h.1 (by decide)), if_neg (by decide)]
theorem dTx : deedN [cTx] = 0 := by
  unfold deedN
  rw [deed_first cTx_ok, deedFrom]
theorem growTx (rows : List Rw) : growV rows [[cTx]] = (1, putV 1 (newV rows) cTx) := by
  unfold growV
  show (comN 0 [cTx], commitV 0 [cTx] (newV rows)) = _
  unfold comN commitV
  rw [if_pos dTx, if_pos dTx]
  rfl
theorem cTx_light (b : Nat) : ∀ d ∈ ([(some ⟨b, 0, none⟩, 1, [cTx])] : List DV), d.2.2.length ≤ 14 ∧ ∀ c ∈ d.2.2, c.key.size ≤ 60 ∧ c.val.size ≤ 100 := fun d hd => by
  rw [List.mem_singleton.1 hd]
  exact ⟨by show ([cTx] : List Ch).length ≤ 14; simp, fun c hc => by rw [List.mem_singleton.1 hc]; decide⟩
/-- What the versions of light rows and deeds are. -/
structure GrV (rows : List Rw) (D : List DV) (nn : Nat) (V : List (ByteArray × List Vn)) : Prop where
  eq : growV rows (dss D) = (nn, V)
  inv : VInv nn V
  now : nn ≤ 12
  len : V.length ≤ 218
  cnt : cntV V ≤ 218
theorem GrV.of {rows : List Rw} {D : List DV} (hu : RUps rows) (h50 : rows.length ≤ 50) (hD : D.length ≤ 12) (h14 : ∀ d ∈ D, d.2.2.length ≤ 14) : ∃ nn V, GrV rows D nn V := by
  have h1 := gS_len (rows := rows) (i := 12) h14
  rw [gS_all hD] at h1
  refine ⟨(growV rows (dss D)).1, (growV rows (dss D)).2, rfl, ?_, h1.1, Nat.le_trans h1.2.1 (by omega), Nat.le_trans h1.2.2 (by omega)⟩
  exact grows_inv (dss D) (s := (0, newV rows)) (newV_inv hu)
theorem rowVals {w : World} {e : TypeId} {size n c : Nat} {a : Option Addr} {xs : List Value} (h : (Row2 e size a n c xs).facts w) : ValsAt w a xs := h.1
set_option maxHeartbeats 1000000 in
set_option maxRecDepth 100000 in
theorem vnowR (p nn : Nat) (V : List (ByteArray × List Vn)) : Reads Tryd.prog 37 #[.pointer (some ⟨p, 0, none⟩)] [VerR p nn V] (.int .i64 nn) := by
  intro w L0 hO; simp only [List.map_cons, List.map_nil, List.cons_append, List.nil_append] at hO; obtain ⟨⟨b, clock, L⟩, hO⟩ := hO.frzEx; replace hO := hO.frzMany; dsimp only at hO; simp only [List.map_cons, List.map_nil, List.cons_append, List.nil_append] at hO; ((try clear hf); have hf := hO.facts; (try simp only [FX, Nat.zero_add, Nat.reduceAdd, and_true, true_and, List.map_cons, List.map_nil, List.cons_append, List.nil_append] at hf))
  go_enter Tryd.func37, Tryd.ntmps37
  go_wp2_with (first | ((first | with_reducible refine wpList_alloc_own hO ?_ | with_reducible refine wpList_drew_own hO ?_ | with_reducible refine wp_alloc_own hO ?_ | with_reducible refine wp_drew_own hO ?_ | with_reducible refine bodyPost_alloc_own hO ?_ | with_reducible refine bodyPost_drew_own hO ?_ | ((first | with_reducible apply wpList_set_own | with_reducible apply wp_set_own | with_reducible apply bodyPost_set_own); (focus (first | (with_reducible apply Own.set; (focus (with_reducible apply hO)); (repeat (first | with_reducible exact Put.here _ _ _ | with_reducible apply Put.there)); done) | (with_reducible apply Own.setRow; (focus (with_reducible apply hO)); (focus (repeat (first | with_reducible exact Put.here _ _ _ | with_reducible apply Put.there))); first | assumption | (simp; omega) | (simp; assumption)) | ((repeat' (first | with_reducible apply hO | with_reducible apply Own.set)); all_goals (repeat (first | with_reducible exact Put.here _ _ _ | with_reducible apply Put.there)); done))))); clear hO; intro w9 hO; (try dsimp only [List.set] at hO); ((try clear hf); have hf := hO.facts; (try simp only [FX, Nat.zero_add, Nat.reduceAdd, and_true, true_and, List.map_cons, List.map_nil, List.cons_append, List.nil_append] at hf))))
  go_ret
  exact ⟨rfl, hO.toExt⟩
end Go.Proofs.YtpdnlgopbnkdhaaDoor
namespace Go.Proofs.YtpdnlgopbnkdhaaDoor
open Go.RowKit
noncomputable def gE (s : Nat × List (ByteArray × List Vn)) (E : List DV) (i : Nat) : Nat × List (ByteArray × List Vn) := ((dss E).take i).foldl growS s
theorem gE_step {s : Nat × List (ByteArray × List Vn)} {E : List DV} {i : Nat} (h : i < E.length) : gE s E (i + 1) = growS (gE s E i) E[i].2.2 := by
  unfold gE dss
  rw [List.take_succ_eq_append_getElem (by simpa using h), List.foldl_append, List.getElem_map]
  rfl
theorem gE_len {s : Nat × List (ByteArray × List Vn)} {E : List DV} {i : Nat} (hD : ∀ d ∈ E, d.2.2.length ≤ 14) : (gE s E i).1 ≤ s.1 + i ∧ (gE s E i).2.length ≤ s.2.length + i * 14 ∧ cntV (gE s E i).2 ≤ cntV s.2 + i * 14 := by
  have h1 := grows_len ((dss E).take i) s (t := 14) fun C hC => by
    obtain ⟨d, hd, rfl⟩ := List.mem_map.1 (List.mem_of_mem_take hC)
    exact hD d hd
  have h2 : ((dss E).take i).length ≤ i := List.length_take_le _ _
  have h3 : ((dss E).take i).length * 14 ≤ i * 14 := Nat.mul_le_mul_right _ h2
  unfold gE
  omega
theorem fact2 : readV (putV 1 (newV []) cTx) kTA 1 = (⟨#[120]⟩, true) := by
  rw [readV_put, if_pos ⟨rfl, by decide⟩]; rfl
def TpArg (ra : Option Addr) (rows : List Rw) (da : Option Addr) (D : List DV) (ea : Option Addr) (E : List DV) (w : World) : Prop := LibOk w ∧ ValsAt w ra (rows.flatMap rwC) ∧ DIn w da D ∧ DIn w ea E
theorem TpArg.base {ra : Option Addr} {rows : List Rw} {da : Option Addr} {D : List DV} {ea : Option Addr} {E : List DV} {w : World} (h : TpArg ra rows da D ea E w) : Own (fun _ => False) w w [.imm (TpArg ra rows da D ea E)] :=
  Own.base w _ fun w' hw' => ⟨h.1.up hw', vals_up h.2.1 hw', h.2.2.1.up hw', h.2.2.2.up hw'⟩
set_option maxHeartbeats 4000000 in
set_option maxRecDepth 100000 in
theorem topPast_any (ra : Option Addr) (n rc : Nat) (rows : List Rw) (da : Option Addr) (m dc : Nat) (D : List DV) (ea : Option Addr) (k ec : Nat) (E : List DV) (lo hi key : ByteArray) (W : World) (hφ : TpArg ra rows da D ea E W) (hrl : rows.length = n) (hdl : D.length = m) (hel : E.length = k)
    (hn : n ≤ 9223372036854775807) (hm : m ≤ 9223372036854775807) (hk : k ≤ 9223372036854775807) :
    Calls Tryd.prog 7 #[.slice ra n rc, .slice da m dc, .slice ea k ec, .agg #[.string lo, .string hi], .string key] W fun e w' => e = .returned (.bool true) ∧ Ext W w' := by
  have hO := (hφ.base.again).imp (ψ := LibOk) fun _ h => h.1
  have HG := fun w (h : TpArg ra rows da D ea E w) => goodRowsT_any ra n rc rows hrl hn w h.1 h.2.1
  have HL1 : ∀ w, TpArg ra rows da D ea E w → Calls Tryd.prog 38 #[.slice da m dc, .int .i64 12] w fun e w' => e = .returned (.bool (lightDs D 12)) ∧ w' = w := fun w h => lightDs_any da m dc D 12 w hdl hm (by omega) h.2.2.1
  have HL2 : ∀ w, TpArg ra rows da D ea E w → Calls Tryd.prog 38 #[.slice ea k ec, .int .i64 12] w fun e w' => e = .returned (.bool (lightDs E 12)) ∧ w' = w := fun w h => lightDs_any ea k ec E 12 w hel hk (by omega) h.2.2.2
  have HSP : ∀ w b, (Var b [.string lo, .string hi] 67).facts w → Calls Tryd.prog 52 #[.slice (some ⟨b, 0, none⟩) 1 1] w fun e w' => e = .returned (.bool (lightSpans [⟨lo, hi⟩])) ∧ w' = w := fun w b h =>
    lightSpans_any (some ⟨b, 0, none⟩) 1 [⟨lo, hi⟩] w (by unfold maxLen; simp) (.inr ⟨b, 0, rfl, fun i hi' => by
      obtain rfl : i = 0 := by simpa using hi'
      exact ⟨Var.cells (t := 67) h.1 (k := 0) rfl, Var.cells (t := 67) h.1 (k := 1) rfl⟩⟩)
  have HG0 := fun (b d : Nat) (φ : World → Prop) (hh : ∀ w, φ w → LibOk w ∧ ValsAt w none (([] : List Rw).flatMap rwC) ∧ DLAt w (some ⟨d, 0, none⟩) [(some ⟨b, 0, none⟩, 1, [cTx])]) =>
    grown_does none 0 0 [] (some ⟨d, 0, none⟩) 1 1 [(some ⟨b, 0, none⟩, 1, [cTx])] rfl (by omega) .nil rfl (by omega) (cTx_light b) hh
  simp only [show ∀ (b : Nat), dss [(some (⟨b, 0, none⟩ : Addr), 1, [cTx])] = [[cTx]] from fun _ => rfl, growTx] at HG0
  ((try clear hf); have hf := hO.facts; (try simp only [FX, Nat.zero_add, Nat.reduceAdd, and_true, true_and, List.map_cons, List.map_nil, List.cons_append, List.nil_append] at hf))
  go_enter Tryd.func7, Tryd.ntmps7
  go_wp2_with (first | ((first | with_reducible refine wpList_alloc_own hO ?_ | with_reducible refine wpList_drew_own hO ?_ | with_reducible refine wp_alloc_own hO ?_ | with_reducible refine wp_drew_own hO ?_ | with_reducible refine bodyPost_alloc_own hO ?_ | with_reducible refine bodyPost_drew_own hO ?_ | ((first | with_reducible apply wpList_set_own | with_reducible apply wp_set_own | with_reducible apply bodyPost_set_own); (focus (first | (with_reducible apply Own.set; (focus (with_reducible apply hO)); (repeat (first | with_reducible exact Put.here _ _ _ | with_reducible apply Put.there)); done) | (with_reducible apply Own.setRow; (focus (with_reducible apply hO)); (focus (repeat (first | with_reducible exact Put.here _ _ _ | with_reducible apply Put.there))); first | assumption | (simp; omega) | (simp; assumption)) | ((repeat' (first | with_reducible apply hO | with_reducible apply Own.set)); all_goals (repeat (first | with_reducible exact Put.here _ _ _ | with_reducible apply Put.there)); done))))); clear hO; intro w9 hO; (try dsimp only [List.set] at hO); ((try clear hf); have hf := hO.facts; (try simp only [FX, Nat.zero_add, Nat.reduceAdd, and_true, true_and, List.map_cons, List.map_nil, List.cons_append, List.nil_append] at hf))))
  obtain ⟨g, hg9⟩ := (hO.pick (r := Var _ [.string lo, .string hi] 67) (by repeat (first | with_reducible exact Pick.here _ _ | with_reducible apply Pick.there))).named
  rw [← hg9]; rw [← hg9] at hO; clear hg9
  obtain ⟨gc, hg9⟩ := (hO.pick (r := Var _ [.string ⟨#[116, 47, 97]⟩, .string ⟨#[120]⟩, .bool false] 74) (by repeat (first | with_reducible exact Pick.here _ _ | with_reducible apply Pick.there))).named
  rw [← hg9]; rw [← hg9] at hO; clear hg9
  obtain ⟨gd, hg9⟩ := (hO.pick (r := Var _ [.slice (some ⟨gc, 0, none⟩) 1 1] 44) (by repeat (first | with_reducible exact Pick.here _ _ | with_reducible apply Pick.there))).named
  rw [← hg9]; rw [← hg9] at hO; clear hg9
  replace hO := (hO.pick (r := .imm LibOk) (by repeat (first | with_reducible exact Pick.here _ _ | with_reducible apply Pick.there))).again.closedG (ρ := LibOk) (c := cTx) (cs := [.string ⟨#[116, 47, 97]⟩, .string ⟨#[120]⟩, .bool false]) rfl (by repeat (first | with_reducible exact Takes.nil _ | with_reducible apply Takes.cons | with_reducible exact Pick.here _ _ | with_reducible apply Pick.there))
  refine Does.use hO (HG0 gc gd (fun w => LibOk w ∧ DLAt w (some ⟨gd, 0, none⟩) [(some ⟨gc, 0, none⟩, 1, [cTx])]) (fun w h => ⟨h.1, .inl rfl, h.2⟩)) (by repeat (first | with_reducible exact Takes.nil _ | with_reducible apply Takes.cons | with_reducible exact Pick.here _ _ | with_reducible apply Pick.there)) ?_
  clear hO
  intro p w4 hO
  dsimp only at hO ⊢
  simp only [List.cons_append, List.nil_append] at hO
  ((try clear hf); have hf := hO.facts; (try simp only [FX, Nat.zero_add, Nat.reduceAdd, and_true, true_and, List.map_cons, List.map_nil, List.cons_append, List.nil_append] at hf))
  have HR0 := vread_reads p 1 (putV 1 (newV []) cTx) kTA 1 (fun e he => by have h1 := cnt_mem he; have h2 := (putV_len 1 cTx (newV [])).2; have h3 : cntV (newV []) = 0 := rfl; omega)
  rw [fact2, kTA_eq] at HR0
  dsimp only at HR0
  cases hgr : goodR rows with
  | false =>
    rw [hgr] at HG
    go_wp2_with (first | (go_at_call 32; (with_reducible apply Reads.use hO (HR0); (focus (repeat (first | with_reducible exact Takes.nil _ | with_reducible apply Takes.cons | with_reducible exact Pick.here _ _ | with_reducible apply Pick.there))); clear hO; intro w9 hx9 hO; clear hx9; dsimp only; ((try clear hf); have hf := hO.facts; (try simp only [FX, Nat.zero_add, Nat.reduceAdd, and_true, true_and, List.map_cons, List.map_nil, List.cons_append, List.nil_append] at hf)))) | (go_at_call 45; (with_reducible apply Calls.mono (HG _ (Own.immOf (φ := TpArg ra rows da D ea E) hO (by repeat (first | with_reducible exact Pick.here _ _ | with_reducible apply Pick.there)))); rintro e8 w8 ⟨rfl, hx8⟩; replace hO := hO.ext hx8; clear hx8; dsimp only; ((try clear hf); have hf := hO.facts; (try simp only [FX, Nat.zero_add, Nat.reduceAdd, and_true, true_and, List.map_cons, List.map_nil, List.cons_append, List.nil_append] at hf)))) | (go_at_call 38; (with_reducible apply Calls.mono (HL1 _ (Own.immOf (φ := TpArg ra rows da D ea E) hO (by repeat (first | with_reducible exact Pick.here _ _ | with_reducible apply Pick.there)))); rintro e8 w8 ⟨rfl, rfl⟩; dsimp only)) | (go_at_call 38; (with_reducible apply Calls.mono (HL2 _ (Own.immOf (φ := TpArg ra rows da D ea E) hO (by repeat (first | with_reducible exact Pick.here _ _ | with_reducible apply Pick.there)))); rintro e8 w8 ⟨rfl, rfl⟩; dsimp only)) | (go_at_call 52; (with_reducible apply Calls.mono (HSP _ _ (hO.factOf (r := Var _ [.string lo, .string hi] 67) (by repeat (first | with_reducible exact Pick.here _ _ | with_reducible apply Pick.there)))); rintro e8 w8 ⟨rfl, rfl⟩; dsimp only)) | ((first | with_reducible refine wpList_alloc_own hO ?_ | with_reducible refine wpList_drew_own hO ?_ | with_reducible refine wp_alloc_own hO ?_ | with_reducible refine wp_drew_own hO ?_ | with_reducible refine bodyPost_alloc_own hO ?_ | with_reducible refine bodyPost_drew_own hO ?_ | ((first | with_reducible apply wpList_set_own | with_reducible apply wp_set_own | with_reducible apply bodyPost_set_own); (focus (first | (with_reducible apply Own.set; (focus (with_reducible apply hO)); (repeat (first | with_reducible exact Put.here _ _ _ | with_reducible apply Put.there)); done) | (with_reducible apply Own.setRow; (focus (with_reducible apply hO)); (focus (repeat (first | with_reducible exact Put.here _ _ _ | with_reducible apply Put.there))); first | assumption | (simp; omega) | (simp; assumption)) | ((repeat' (first | with_reducible apply hO | with_reducible apply Own.set)); all_goals (repeat (first | with_reducible exact Put.here _ _ _ | with_reducible apply Put.there)); done))))); clear hO; intro w9 hO; (try dsimp only [List.set] at hO); ((try clear hf); have hf := hO.facts; (try simp only [FX, Nat.zero_add, Nat.reduceAdd, and_true, true_and, List.map_cons, List.map_nil, List.cons_append, List.nil_append] at hf))))
    all_goals first | (exfalso; simp_all; done) | (go_ret; exact ⟨rfl, hO.toExt⟩)
  | true =>
  rw [hgr] at HG
  cases hld : lightDs D 12 with
  | false =>
    rw [hld] at HL1
    go_wp2_with (first | (go_at_call 32; (with_reducible apply Reads.use hO (HR0); (focus (repeat (first | with_reducible exact Takes.nil _ | with_reducible apply Takes.cons | with_reducible exact Pick.here _ _ | with_reducible apply Pick.there))); clear hO; intro w9 hx9 hO; clear hx9; dsimp only; ((try clear hf); have hf := hO.facts; (try simp only [FX, Nat.zero_add, Nat.reduceAdd, and_true, true_and, List.map_cons, List.map_nil, List.cons_append, List.nil_append] at hf)))) | (go_at_call 45; (with_reducible apply Calls.mono (HG _ (Own.immOf (φ := TpArg ra rows da D ea E) hO (by repeat (first | with_reducible exact Pick.here _ _ | with_reducible apply Pick.there)))); rintro e8 w8 ⟨rfl, hx8⟩; replace hO := hO.ext hx8; clear hx8; dsimp only; ((try clear hf); have hf := hO.facts; (try simp only [FX, Nat.zero_add, Nat.reduceAdd, and_true, true_and, List.map_cons, List.map_nil, List.cons_append, List.nil_append] at hf)))) | (go_at_call 38; (with_reducible apply Calls.mono (HL1 _ (Own.immOf (φ := TpArg ra rows da D ea E) hO (by repeat (first | with_reducible exact Pick.here _ _ | with_reducible apply Pick.there)))); rintro e8 w8 ⟨rfl, rfl⟩; dsimp only)) | (go_at_call 38; (with_reducible apply Calls.mono (HL2 _ (Own.immOf (φ := TpArg ra rows da D ea E) hO (by repeat (first | with_reducible exact Pick.here _ _ | with_reducible apply Pick.there)))); rintro e8 w8 ⟨rfl, rfl⟩; dsimp only)) | (go_at_call 52; (with_reducible apply Calls.mono (HSP _ _ (hO.factOf (r := Var _ [.string lo, .string hi] 67) (by repeat (first | with_reducible exact Pick.here _ _ | with_reducible apply Pick.there)))); rintro e8 w8 ⟨rfl, rfl⟩; dsimp only)) | ((first | with_reducible refine wpList_alloc_own hO ?_ | with_reducible refine wpList_drew_own hO ?_ | with_reducible refine wp_alloc_own hO ?_ | with_reducible refine wp_drew_own hO ?_ | with_reducible refine bodyPost_alloc_own hO ?_ | with_reducible refine bodyPost_drew_own hO ?_ | ((first | with_reducible apply wpList_set_own | with_reducible apply wp_set_own | with_reducible apply bodyPost_set_own); (focus (first | (with_reducible apply Own.set; (focus (with_reducible apply hO)); (repeat (first | with_reducible exact Put.here _ _ _ | with_reducible apply Put.there)); done) | (with_reducible apply Own.setRow; (focus (with_reducible apply hO)); (focus (repeat (first | with_reducible exact Put.here _ _ _ | with_reducible apply Put.there))); first | assumption | (simp; omega) | (simp; assumption)) | ((repeat' (first | with_reducible apply hO | with_reducible apply Own.set)); all_goals (repeat (first | with_reducible exact Put.here _ _ _ | with_reducible apply Put.there)); done))))); clear hO; intro w9 hO; (try dsimp only [List.set] at hO); ((try clear hf); have hf := hO.facts; (try simp only [FX, Nat.zero_add, Nat.reduceAdd, and_true, true_and, List.map_cons, List.map_nil, List.cons_append, List.nil_append] at hf))))
    all_goals first | (exfalso; simp_all; done) | (go_ret; exact ⟨rfl, hO.toExt⟩)
  | true =>
  rw [hld] at HL1
  cases hle : lightDs E 12 with
  | false =>
    rw [hle] at HL2
    go_wp2_with (first | (go_at_call 32; (with_reducible apply Reads.use hO (HR0); (focus (repeat (first | with_reducible exact Takes.nil _ | with_reducible apply Takes.cons | with_reducible exact Pick.here _ _ | with_reducible apply Pick.there))); clear hO; intro w9 hx9 hO; clear hx9; dsimp only; ((try clear hf); have hf := hO.facts; (try simp only [FX, Nat.zero_add, Nat.reduceAdd, and_true, true_and, List.map_cons, List.map_nil, List.cons_append, List.nil_append] at hf)))) | (go_at_call 45; (with_reducible apply Calls.mono (HG _ (Own.immOf (φ := TpArg ra rows da D ea E) hO (by repeat (first | with_reducible exact Pick.here _ _ | with_reducible apply Pick.there)))); rintro e8 w8 ⟨rfl, hx8⟩; replace hO := hO.ext hx8; clear hx8; dsimp only; ((try clear hf); have hf := hO.facts; (try simp only [FX, Nat.zero_add, Nat.reduceAdd, and_true, true_and, List.map_cons, List.map_nil, List.cons_append, List.nil_append] at hf)))) | (go_at_call 38; (with_reducible apply Calls.mono (HL1 _ (Own.immOf (φ := TpArg ra rows da D ea E) hO (by repeat (first | with_reducible exact Pick.here _ _ | with_reducible apply Pick.there)))); rintro e8 w8 ⟨rfl, rfl⟩; dsimp only)) | (go_at_call 38; (with_reducible apply Calls.mono (HL2 _ (Own.immOf (φ := TpArg ra rows da D ea E) hO (by repeat (first | with_reducible exact Pick.here _ _ | with_reducible apply Pick.there)))); rintro e8 w8 ⟨rfl, rfl⟩; dsimp only)) | (go_at_call 52; (with_reducible apply Calls.mono (HSP _ _ (hO.factOf (r := Var _ [.string lo, .string hi] 67) (by repeat (first | with_reducible exact Pick.here _ _ | with_reducible apply Pick.there)))); rintro e8 w8 ⟨rfl, rfl⟩; dsimp only)) | ((first | with_reducible refine wpList_alloc_own hO ?_ | with_reducible refine wpList_drew_own hO ?_ | with_reducible refine wp_alloc_own hO ?_ | with_reducible refine wp_drew_own hO ?_ | with_reducible refine bodyPost_alloc_own hO ?_ | with_reducible refine bodyPost_drew_own hO ?_ | ((first | with_reducible apply wpList_set_own | with_reducible apply wp_set_own | with_reducible apply bodyPost_set_own); (focus (first | (with_reducible apply Own.set; (focus (with_reducible apply hO)); (repeat (first | with_reducible exact Put.here _ _ _ | with_reducible apply Put.there)); done) | (with_reducible apply Own.setRow; (focus (with_reducible apply hO)); (focus (repeat (first | with_reducible exact Put.here _ _ _ | with_reducible apply Put.there))); first | assumption | (simp; omega) | (simp; assumption)) | ((repeat' (first | with_reducible apply hO | with_reducible apply Own.set)); all_goals (repeat (first | with_reducible exact Put.here _ _ _ | with_reducible apply Put.there)); done))))); clear hO; intro w9 hO; (try dsimp only [List.set] at hO); ((try clear hf); have hf := hO.facts; (try simp only [FX, Nat.zero_add, Nat.reduceAdd, and_true, true_and, List.map_cons, List.map_nil, List.cons_append, List.nil_append] at hf))))
    all_goals first | (exfalso; simp_all; done) | (go_ret; exact ⟨rfl, hO.toExt⟩)
  | true =>
  rw [hle] at HL2
  cases hsp : lightSpans [⟨lo, hi⟩] with
  | false =>
    rw [hsp] at HSP
    go_wp2_with (first | (go_at_call 32; (with_reducible apply Reads.use hO (HR0); (focus (repeat (first | with_reducible exact Takes.nil _ | with_reducible apply Takes.cons | with_reducible exact Pick.here _ _ | with_reducible apply Pick.there))); clear hO; intro w9 hx9 hO; clear hx9; dsimp only; ((try clear hf); have hf := hO.facts; (try simp only [FX, Nat.zero_add, Nat.reduceAdd, and_true, true_and, List.map_cons, List.map_nil, List.cons_append, List.nil_append] at hf)))) | (go_at_call 45; (with_reducible apply Calls.mono (HG _ (Own.immOf (φ := TpArg ra rows da D ea E) hO (by repeat (first | with_reducible exact Pick.here _ _ | with_reducible apply Pick.there)))); rintro e8 w8 ⟨rfl, hx8⟩; replace hO := hO.ext hx8; clear hx8; dsimp only; ((try clear hf); have hf := hO.facts; (try simp only [FX, Nat.zero_add, Nat.reduceAdd, and_true, true_and, List.map_cons, List.map_nil, List.cons_append, List.nil_append] at hf)))) | (go_at_call 38; (with_reducible apply Calls.mono (HL1 _ (Own.immOf (φ := TpArg ra rows da D ea E) hO (by repeat (first | with_reducible exact Pick.here _ _ | with_reducible apply Pick.there)))); rintro e8 w8 ⟨rfl, rfl⟩; dsimp only)) | (go_at_call 38; (with_reducible apply Calls.mono (HL2 _ (Own.immOf (φ := TpArg ra rows da D ea E) hO (by repeat (first | with_reducible exact Pick.here _ _ | with_reducible apply Pick.there)))); rintro e8 w8 ⟨rfl, rfl⟩; dsimp only)) | (go_at_call 52; (with_reducible apply Calls.mono (HSP _ _ (hO.factOf (r := Var _ [.string lo, .string hi] 67) (by repeat (first | with_reducible exact Pick.here _ _ | with_reducible apply Pick.there)))); rintro e8 w8 ⟨rfl, rfl⟩; dsimp only)) | ((first | with_reducible refine wpList_alloc_own hO ?_ | with_reducible refine wpList_drew_own hO ?_ | with_reducible refine wp_alloc_own hO ?_ | with_reducible refine wp_drew_own hO ?_ | with_reducible refine bodyPost_alloc_own hO ?_ | with_reducible refine bodyPost_drew_own hO ?_ | ((first | with_reducible apply wpList_set_own | with_reducible apply wp_set_own | with_reducible apply bodyPost_set_own); (focus (first | (with_reducible apply Own.set; (focus (with_reducible apply hO)); (repeat (first | with_reducible exact Put.here _ _ _ | with_reducible apply Put.there)); done) | (with_reducible apply Own.setRow; (focus (with_reducible apply hO)); (focus (repeat (first | with_reducible exact Put.here _ _ _ | with_reducible apply Put.there))); first | assumption | (simp; omega) | (simp; assumption)) | ((repeat' (first | with_reducible apply hO | with_reducible apply Own.set)); all_goals (repeat (first | with_reducible exact Put.here _ _ _ | with_reducible apply Put.there)); done))))); clear hO; intro w9 hO; (try dsimp only [List.set] at hO); ((try clear hf); have hf := hO.facts; (try simp only [FX, Nat.zero_add, Nat.reduceAdd, and_true, true_and, List.map_cons, List.map_nil, List.cons_append, List.nil_append] at hf))))
    all_goals first | (exfalso; simp_all; done) | (go_ret; exact ⟨rfl, hO.toExt⟩)
  | true =>
  rw [hsp] at HSP
  clear hsp
  by_cases hks : key.size ≤ 60
  · obtain ⟨h50, hup, _⟩ := goodR_ok hgr
    obtain ⟨h12, hlc⟩ := lightDs_of hld
    obtain ⟨h12e, hlce⟩ := lightDs_of hle
    obtain ⟨nn, V, HGV⟩ := GrV.of hup h50 h12 fun d hd => (hlc d hd).1
    have HGR := grown_does ra n rc rows da m dc D hrl (by omega) hup hdl (by omega) hlc (φ := TpArg ra rows da D ea E) fun w h => ⟨h.1, h.2.1, h.2.2.1.1⟩
    rw [HGV.eq] at HGR
    dsimp only at HGR
    have hnn := HGV.now
    have hlen := HGV.len
    have hcnt := HGV.cnt
    have hVl : ∀ e ∈ V, e.2.length ≤ 218 := fun e he => Nat.le_trans (cnt_mem he) hcnt
    have HRD := fun q => vread_reads q nn V key nn (fun e he => by have := hVl e he; omega)
    have HSC := fun q => vscan_does q nn V lo hi nn (by omega) (fun e he => by have := hVl e he; omega)
    have hsl := scanV_len V (hasB lo hi) nn
    obtain ⟨SC, hSC⟩ : ∃ SC, SC = scanV V (hasB lo hi) nn := ⟨_, rfl⟩
    obtain ⟨y, hY⟩ : ∃ y, y = readV V key nn := ⟨_, rfl⟩
    rw [← hSC] at hsl HSC
    rw [← hY] at HRD
    have HSCH := Lib.hid hSC
    have HYH := Lib.hid hY
    clear hSC hY
    obtain ⟨yv, yb⟩ := y
    dsimp only at HRD
    have HGVH := Lib.hid HGV
    have HLCE := Lib.hid hlce
    clear HGV hlc hlce hld hle hgr hVl
    go_wp2_with (first | (go_at_call 32; (with_reducible apply Reads.use hO (HR0); (focus (repeat (first | with_reducible exact Takes.nil _ | with_reducible apply Takes.cons | with_reducible exact Pick.here _ _ | with_reducible apply Pick.there))); clear hO; intro w9 hx9 hO; clear hx9; dsimp only; ((try clear hf); have hf := hO.facts; (try simp only [FX, Nat.zero_add, Nat.reduceAdd, and_true, true_and, List.map_cons, List.map_nil, List.cons_append, List.nil_append] at hf)))) | (go_at_call 45; (with_reducible apply Calls.mono (HG _ (Own.immOf (φ := TpArg ra rows da D ea E) hO (by repeat (first | with_reducible exact Pick.here _ _ | with_reducible apply Pick.there)))); rintro e8 w8 ⟨rfl, hx8⟩; replace hO := hO.ext hx8; clear hx8; dsimp only; ((try clear hf); have hf := hO.facts; (try simp only [FX, Nat.zero_add, Nat.reduceAdd, and_true, true_and, List.map_cons, List.map_nil, List.cons_append, List.nil_append] at hf)))) | (go_at_call 38; (with_reducible apply Calls.mono (HL1 _ (Own.immOf (φ := TpArg ra rows da D ea E) hO (by repeat (first | with_reducible exact Pick.here _ _ | with_reducible apply Pick.there)))); rintro e8 w8 ⟨rfl, rfl⟩; dsimp only)) | (go_at_call 38; (with_reducible apply Calls.mono (HL2 _ (Own.immOf (φ := TpArg ra rows da D ea E) hO (by repeat (first | with_reducible exact Pick.here _ _ | with_reducible apply Pick.there)))); rintro e8 w8 ⟨rfl, rfl⟩; dsimp only)) | (go_at_call 52; (with_reducible apply Calls.mono (HSP _ _ (hO.factOf (r := Var _ [.string lo, .string hi] 67) (by repeat (first | with_reducible exact Pick.here _ _ | with_reducible apply Pick.there)))); rintro e8 w8 ⟨rfl, rfl⟩; dsimp only)) | (go_at_call 51; (with_reducible apply Does.use hO (HGR); (focus (repeat (first | with_reducible exact Takes.nil _ | with_reducible apply Takes.cons | with_reducible exact Pick.here _ _ | with_reducible apply Pick.there))); clear hO; intro x9 w9 hO; dsimp only at hO ⊢; simp only [List.cons_append, List.nil_append] at hO; ((try clear hf); have hf := hO.facts; (try simp only [FX, Nat.zero_add, Nat.reduceAdd, and_true, true_and, List.map_cons, List.map_nil, List.cons_append, List.nil_append] at hf)); (rename Nat => q))) | (go_at_call 37; (with_reducible apply Reads.use hO ((vnowR _ _ _)); (focus (repeat (first | with_reducible exact Takes.nil _ | with_reducible apply Takes.cons | with_reducible exact Pick.here _ _ | with_reducible apply Pick.there))); clear hO; intro w9 hx9 hO; clear hx9; dsimp only; ((try clear hf); have hf := hO.facts; (try simp only [FX, Nat.zero_add, Nat.reduceAdd, and_true, true_and, List.map_cons, List.map_nil, List.cons_append, List.nil_append] at hf)))) | (go_at_call 32; (with_reducible apply Reads.use hO (HRD _); (focus (repeat (first | with_reducible exact Takes.nil _ | with_reducible apply Takes.cons | with_reducible exact Pick.here _ _ | with_reducible apply Pick.there))); clear hO; intro w9 hx9 hO; clear hx9; dsimp only; ((try clear hf); have hf := hO.facts; (try simp only [FX, Nat.zero_add, Nat.reduceAdd, and_true, true_and, List.map_cons, List.map_nil, List.cons_append, List.nil_append] at hf)))) | (go_at_call 35; (with_reducible apply Does.use hO (HSC _); (focus (repeat (first | with_reducible exact Takes.nil _ | with_reducible apply Takes.cons | with_reducible exact Pick.here _ _ | with_reducible apply Pick.there))); clear hO; intro x9 w9 hO; dsimp only at hO ⊢; simp only [List.cons_append, List.nil_append] at hO; ((try clear hf); have hf := hO.facts; (try simp only [FX, Nat.zero_add, Nat.reduceAdd, and_true, true_and, List.map_cons, List.map_nil, List.cons_append, List.nil_append] at hf)); (obtain ⟨sa, sc⟩ := x9; dsimp only at hO ⊢; ((try clear hf); have hf := hO.facts; (try simp only [FX, Nat.zero_add, Nat.reduceAdd, and_true, true_and, List.map_cons, List.map_nil, List.cons_append, List.nil_append] at hf))))) | ((first | with_reducible refine wpList_alloc_own hO ?_ | with_reducible refine wpList_drew_own hO ?_ | with_reducible refine wp_alloc_own hO ?_ | with_reducible refine wp_drew_own hO ?_ | with_reducible refine bodyPost_alloc_own hO ?_ | with_reducible refine bodyPost_drew_own hO ?_ | ((first | with_reducible apply wpList_set_own | with_reducible apply wp_set_own | with_reducible apply bodyPost_set_own); (focus (first | (with_reducible apply Own.set; (focus (with_reducible apply hO)); (repeat (first | with_reducible exact Put.here _ _ _ | with_reducible apply Put.there)); done) | (with_reducible apply Own.setRow; (focus (with_reducible apply hO)); (focus (repeat (first | with_reducible exact Put.here _ _ _ | with_reducible apply Put.there))); first | assumption | (simp; omega) | (simp; assumption)) | ((repeat' (first | with_reducible apply hO | with_reducible apply Own.set)); all_goals (repeat (first | with_reducible exact Put.here _ _ _ | with_reducible apply Put.there)); done))))); clear hO; intro w9 hO; (try dsimp only [List.set] at hO); ((try clear hf); have hf := hO.facts; (try simp only [FX, Nat.zero_add, Nat.reduceAdd, and_true, true_and, List.map_cons, List.map_nil, List.cons_append, List.nil_append] at hf))))
    have hO9 := hO
    clear hO hf HRD HSC HG HL1 HL2 HSP HR0 HGR HG0
    go_loopw [18] (fun v wr => ∃ i : Nat, v = .int .i64 i ∧ i ≤ k ∧ Own (fun _ => False) W wr [VerR q (gE (nn, V) E i).1 (gE (nn, V) E i).2, Row2 90 2 sa SC.length sc (SC.flatMap rwC), Var g [.string lo, .string hi] 67, .imm (TpArg ra rows da D ea E)]) (fun v _ => k - (intOf v).toNat)
    case atStart => exact ⟨0, rfl, by omega, (show Own _ W _ [VerR q nn V, _, _, _] from hO9.cut (by repeat (first | with_reducible apply Sub.cons | with_reducible exact Pick.here _ _ | with_reducible apply Pick.there | with_reducible apply Sub.base | with_reducible exact Keeps.here _ | with_reducible apply Keeps.skip)))⟩
    case round =>
      clear hO9
      obtain ⟨i, rfl, hi', hO⟩ := hrel
      rename World => w5
      ((try clear hf); have hf := hO.facts; (try simp only [FX, Nat.zero_add, Nat.reduceAdd, and_true, true_and, List.map_cons, List.map_nil, List.cons_append, List.nil_append] at hf))
      by_cases hlt : i < k
      · have hi2 : i < E.length := by omega
        have hcd : (E.map dv)[i]? = some (dv E[i]) := by rw [List.getElem?_map, List.getElem?_eq_getElem hi2]; rfl
        obtain ⟨b, off, rfl⟩ := ValsAt.some ((Own.immOf (φ := TpArg ra rows da D ea E) hO (by repeat (first | with_reducible exact Pick.here _ _ | with_reducible apply Pick.there))).2.2.2.1.1) hcd
        have hcell := fun w (h : TpArg ra rows da D (some ⟨b, off, none⟩) E w) => show w.cell? ⟨b, off + i, none⟩ = some (dv E[i]) from ValsAt.get h.2.2.2.1.1 hcd
        have hch := fun w (h : TpArg ra rows da D (some ⟨b, off, none⟩) E w) => h.2.2.2.1.2 _ (List.getElem_mem hi2)
        obtain ⟨hx14, hxc⟩ := HLCE.out _ (List.getElem_mem hi2)
        have HST := Lib.hid (gE_step (s := (nn, V)) hi2)
        obtain ⟨g1, g2, g3⟩ := gE_len (s := (nn, V)) (i := i) fun d hd => (HLCE.out d hd).1
        dsimp only at g1 g2 g3
        clear hcd
        generalize E[i] = x at *
        obtain ⟨xa, xc, xl⟩ := x
        dsimp only [dv] at hcell hch hx14 hxc HST
        have hG : ∀ e ∈ (gE (nn, V) E i).2, e.2.length ≤ 100000 := fun e he => by have := cnt_mem he; omega
        have HC := vcommit_does q (gE (nn, V) E i).1 (gE (nn, V) E i).2 xa xl.length xc xl rfl (by omega) (fun c hc => ⟨by have := (hxc c hc).1; omega, by have := (hxc c hc).2; omega⟩) (by omega) hG (φ := TpArg ra rows da D (some ⟨b, off, none⟩) E) fun w h => ⟨h.1, hch w h⟩
        clear hG hxc g1 g2 g3
        have c0 := hcell _ (Own.immOf (φ := TpArg ra rows da D (some ⟨b, off, none⟩) E) hO (by repeat (first | with_reducible exact Pick.here _ _ | with_reducible apply Pick.there)))
        go_wp2_with (first | (go_at_call 27; (with_reducible apply Does.use hO (HC); (focus (repeat (first | with_reducible exact Takes.nil _ | with_reducible apply Takes.cons | with_reducible exact Pick.here _ _ | with_reducible apply Pick.there))); clear hO; intro x9 w9 hO; dsimp only at hO ⊢; simp only [List.cons_append, List.nil_append] at hO; ((try clear hf); have hf := hO.facts; (try simp only [FX, Nat.zero_add, Nat.reduceAdd, and_true, true_and, List.map_cons, List.map_nil, List.cons_append, List.nil_append] at hf)))) | ((first | with_reducible refine wpList_alloc_own hO ?_ | with_reducible refine wpList_drew_own hO ?_ | with_reducible refine wp_alloc_own hO ?_ | with_reducible refine wp_drew_own hO ?_ | with_reducible refine bodyPost_alloc_own hO ?_ | with_reducible refine bodyPost_drew_own hO ?_ | ((first | with_reducible apply wpList_set_own | with_reducible apply wp_set_own | with_reducible apply bodyPost_set_own); (focus (first | (with_reducible apply Own.set; (focus (with_reducible apply hO)); (repeat (first | with_reducible exact Put.here _ _ _ | with_reducible apply Put.there)); done) | (with_reducible apply Own.setRow; (focus (with_reducible apply hO)); (focus (repeat (first | with_reducible exact Put.here _ _ _ | with_reducible apply Put.there))); first | assumption | (simp; omega) | (simp; assumption)) | ((repeat' (first | with_reducible apply hO | with_reducible apply Own.set)); all_goals (repeat (first | with_reducible exact Put.here _ _ _ | with_reducible apply Put.there)); done))))); clear hO; intro w9 hO; (try dsimp only [List.set] at hO); ((try clear hf); have hf := hO.facts; (try simp only [FX, Nat.zero_add, Nat.reduceAdd, and_true, true_and, List.map_cons, List.map_nil, List.cons_append, List.nil_append] at hf))))
        refine ⟨⟨i + 1, by go_num, by omega, ?_⟩, by simp [intOf]; omega⟩
        rw [HST.out]
        exact (show Own _ W _ [VerR q (comN (gE (nn, V) E i).1 xl) (commitV (gE (nn, V) E i).1 xl (gE (nn, V) E i).2), _, _, _] from hO.cut (by repeat (first | with_reducible apply Sub.cons | with_reducible exact Pick.here _ _ | with_reducible apply Pick.there | with_reducible apply Sub.base | with_reducible exact Keeps.here _ | with_reducible apply Keeps.skip)))
      · obtain rfl : i = k := by omega
        obtain ⟨g1, g2, g3⟩ := gE_len (s := (nn, V)) (i := i) fun d hd => (HLCE.out d hd).1
        dsimp only at g1 g2 g3
        have hold := fun key => (grows_old ((dss E).take i) (nn, V) key (m := nn) (Int.le_refl _)).1
        have hinv := grows_inv ((dss E).take i) (s := (nn, V)) HGVH.out.inv
        have hse : scanV (gE (nn, V) E i).2 (hasB lo hi) nn = SC := by
          rw [HSCH.out]
          exact scan_eq hinv.keys HGVH.out.inv.keys hold
        have hrd : readV (gE (nn, V) E i).2 key nn = (yv, yb) := by
          rw [HYH.out]
          exact hold key
        have HRD := vread_reads q (gE (nn, V) E i).1 (gE (nn, V) E i).2 key nn (fun e he => by have := cnt_mem he; omega)
        have HSC := vscan_does q (gE (nn, V) E i).1 (gE (nn, V) E i).2 lo hi nn (by omega) (fun e he => by have := cnt_mem he; omega)
        rw [hrd] at HRD
        rw [hse] at HSC
        dsimp only at HRD
        have HSR := fun (a1 a2 : Option Addr) (c1 c2 : Nat) w => sameRows_any a1 a2 SC.length c1 c2 SC w rfl (by omega)
        clear hold hinv hse hrd g1 g2 g3 hsl
        ((try clear hf); have hf := hO.facts; (try simp only [FX, Nat.zero_add, Nat.reduceAdd, and_true, true_and, List.map_cons, List.map_nil, List.cons_append, List.nil_append] at hf))
        go_wp2_with (first | (go_at_call 32; (with_reducible apply Reads.use hO (HRD); (focus (repeat (first | with_reducible exact Takes.nil _ | with_reducible apply Takes.cons | with_reducible exact Pick.here _ _ | with_reducible apply Pick.there))); clear hO; intro w9 hx9 hO; clear hx9; dsimp only; ((try clear hf); have hf := hO.facts; (try simp only [FX, Nat.zero_add, Nat.reduceAdd, and_true, true_and, List.map_cons, List.map_nil, List.cons_append, List.nil_append] at hf)))) | (go_at_call 35; (with_reducible apply Does.use hO (HSC); (focus (repeat (first | with_reducible exact Takes.nil _ | with_reducible apply Takes.cons | with_reducible exact Pick.here _ _ | with_reducible apply Pick.there))); clear hO; intro x9 w9 hO; dsimp only at hO ⊢; simp only [List.cons_append, List.nil_append] at hO; ((try clear hf); have hf := hO.facts; (try simp only [FX, Nat.zero_add, Nat.reduceAdd, and_true, true_and, List.map_cons, List.map_nil, List.cons_append, List.nil_append] at hf)); (obtain ⟨ta, tc⟩ := x9; dsimp only at hO ⊢; ((try clear hf); have hf := hO.facts; (try simp only [FX, Nat.zero_add, Nat.reduceAdd, and_true, true_and, List.map_cons, List.map_nil, List.cons_append, List.nil_append] at hf))))) | (go_at_call 34; (with_reducible apply Calls.mono (HSR ta sa tc sc _ (rowVals (hO.factOf (r := Row2 90 2 ta SC.length tc (SC.flatMap rwC)) (by repeat (first | with_reducible exact Pick.here _ _ | with_reducible apply Pick.there)))) (rowVals (hO.factOf (r := Row2 90 2 sa SC.length sc (SC.flatMap rwC)) (by repeat (first | with_reducible exact Pick.here _ _ | with_reducible apply Pick.there))))); rintro e8 w8 ⟨rfl, hx8⟩; replace hO := hO.ext hx8; clear hx8; dsimp only; ((try clear hf); have hf := hO.facts; (try simp only [FX, Nat.zero_add, Nat.reduceAdd, and_true, true_and, List.map_cons, List.map_nil, List.cons_append, List.nil_append] at hf)))) | ((first | with_reducible refine wpList_alloc_own hO ?_ | with_reducible refine wpList_drew_own hO ?_ | with_reducible refine wp_alloc_own hO ?_ | with_reducible refine wp_drew_own hO ?_ | with_reducible refine bodyPost_alloc_own hO ?_ | with_reducible refine bodyPost_drew_own hO ?_ | ((first | with_reducible apply wpList_set_own | with_reducible apply wp_set_own | with_reducible apply bodyPost_set_own); (focus (first | (with_reducible apply Own.set; (focus (with_reducible apply hO)); (repeat (first | with_reducible exact Put.here _ _ _ | with_reducible apply Put.there)); done) | (with_reducible apply Own.setRow; (focus (with_reducible apply hO)); (focus (repeat (first | with_reducible exact Put.here _ _ _ | with_reducible apply Put.there))); first | assumption | (simp; omega) | (simp; assumption)) | ((repeat' (first | with_reducible apply hO | with_reducible apply Own.set)); all_goals (repeat (first | with_reducible exact Put.here _ _ _ | with_reducible apply Put.there)); done))))); clear hO; intro w9 hO; (try dsimp only [List.set] at hO); ((try clear hf); have hf := hO.facts; (try simp only [FX, Nat.zero_add, Nat.reduceAdd, and_true, true_and, List.map_cons, List.map_nil, List.cons_append, List.nil_append] at hf))))
        all_goals first | (exfalso; simp_all; done) | (go_ret; exact ⟨rfl, hO.toExt⟩)
  · go_wp2_with (first | (go_at_call 32; (with_reducible apply Reads.use hO (HR0); (focus (repeat (first | with_reducible exact Takes.nil _ | with_reducible apply Takes.cons | with_reducible exact Pick.here _ _ | with_reducible apply Pick.there))); clear hO; intro w9 hx9 hO; clear hx9; dsimp only; ((try clear hf); have hf := hO.facts; (try simp only [FX, Nat.zero_add, Nat.reduceAdd, and_true, true_and, List.map_cons, List.map_nil, List.cons_append, List.nil_append] at hf)))) | (go_at_call 45; (with_reducible apply Calls.mono (HG _ (Own.immOf (φ := TpArg ra rows da D ea E) hO (by repeat (first | with_reducible exact Pick.here _ _ | with_reducible apply Pick.there)))); rintro e8 w8 ⟨rfl, hx8⟩; replace hO := hO.ext hx8; clear hx8; dsimp only; ((try clear hf); have hf := hO.facts; (try simp only [FX, Nat.zero_add, Nat.reduceAdd, and_true, true_and, List.map_cons, List.map_nil, List.cons_append, List.nil_append] at hf)))) | (go_at_call 38; (with_reducible apply Calls.mono (HL1 _ (Own.immOf (φ := TpArg ra rows da D ea E) hO (by repeat (first | with_reducible exact Pick.here _ _ | with_reducible apply Pick.there)))); rintro e8 w8 ⟨rfl, rfl⟩; dsimp only)) | (go_at_call 38; (with_reducible apply Calls.mono (HL2 _ (Own.immOf (φ := TpArg ra rows da D ea E) hO (by repeat (first | with_reducible exact Pick.here _ _ | with_reducible apply Pick.there)))); rintro e8 w8 ⟨rfl, rfl⟩; dsimp only)) | (go_at_call 52; (with_reducible apply Calls.mono (HSP _ _ (hO.factOf (r := Var _ [.string lo, .string hi] 67) (by repeat (first | with_reducible exact Pick.here _ _ | with_reducible apply Pick.there)))); rintro e8 w8 ⟨rfl, rfl⟩; dsimp only)) | ((first | with_reducible refine wpList_alloc_own hO ?_ | with_reducible refine wpList_drew_own hO ?_ | with_reducible refine wp_alloc_own hO ?_ | with_reducible refine wp_drew_own hO ?_ | with_reducible refine bodyPost_alloc_own hO ?_ | with_reducible refine bodyPost_drew_own hO ?_ | ((first | with_reducible apply wpList_set_own | with_reducible apply wp_set_own | with_reducible apply bodyPost_set_own); (focus (first | (with_reducible apply Own.set; (focus (with_reducible apply hO)); (repeat (first | with_reducible exact Put.here _ _ _ | with_reducible apply Put.there)); done) | (with_reducible apply Own.setRow; (focus (with_reducible apply hO)); (focus (repeat (first | with_reducible exact Put.here _ _ _ | with_reducible apply Put.there))); first | assumption | (simp; omega) | (simp; assumption)) | ((repeat' (first | with_reducible apply hO | with_reducible apply Own.set)); all_goals (repeat (first | with_reducible exact Put.here _ _ _ | with_reducible apply Put.there)); done))))); clear hO; intro w9 hO; (try dsimp only [List.set] at hO); ((try clear hf); have hf := hO.facts; (try simp only [FX, Nat.zero_add, Nat.reduceAdd, and_true, true_and, List.map_cons, List.map_nil, List.cons_append, List.nil_append] at hf))))
    all_goals first | (exfalso; omega; done) | (go_ret; exact ⟨rfl, hO.toExt⟩)
end Go.Proofs.YtpdnlgopbnkdhaaDoor
