/- Texts Grown, TopV, OwnP, TopOwn of this claim, laid together. -/
import Derived.Test.YtpdnlgopbnkdhaaDoorGTopOwnProof33
import Derived.Test.YtpdnlgopbnkdhaaDoorGTopOwnProof30
import Derived.Test.YtpdnlgopbnkdhaaDoorGTopOwnProof25
import Derived.Test.YtpdnlgopbnkdhaaDoorGTopOwnProof12
import Derived.Test.YtpdnlgopbnkdhaaDoorGTopOwnProof31
set_option linter.unusedVariables false
set_option linter.unusedSimpArgs false
namespace Go.Proofs.YtpdnlgopbnkdhaaDoor
open Go.RowKit
noncomputable def gS (rows : List Rw) (D : List DV) (i : Nat) : Nat × List (ByteArray × List Vn) := ((dss D).take i).foldl growS (0, newV rows)
theorem gS_step {rows : List Rw} {D : List DV} {i : Nat} (h : i < D.length) : gS rows D (i + 1) = growS (gS rows D i) D[i].2.2 := by
  unfold gS dss
  rw [List.take_succ_eq_append_getElem (by simpa using h), List.foldl_append, List.getElem_map]
  rfl
theorem gS_all {rows : List Rw} {D : List DV} {i : Nat} (h : D.length ≤ i) : gS rows D i = growV rows (dss D) := by
  unfold gS growV
  rw [List.take_of_length_le (by unfold dss; simpa using h)]
theorem gS_len {rows : List Rw} {D : List DV} {i : Nat} (hD : ∀ d ∈ D, d.2.2.length ≤ 14) : (gS rows D i).1 ≤ i ∧ (gS rows D i).2.length ≤ rows.length + i * 14 ∧ cntV (gS rows D i).2 ≤ rows.length + i * 14 := by
  have h1 := grows_len ((dss D).take i) (0, newV rows) (t := 14) fun C hC => by
    obtain ⟨d, hd, rfl⟩ := List.mem_map.1 (List.mem_of_mem_take hC)
    exact hD d hd
  have h2 : ((dss D).take i).length ≤ i := List.length_take_le _ _
  have h3 : ((dss D).take i).length * 14 ≤ i * 14 := Nat.mul_le_mul_right _ h2
  have h4 := cnt_new rows
  have h5 : (newV rows).length = rows.length := by unfold newV; rw [List.length_map]
  unfold gS
  simp only at h1
  omega
set_option maxHeartbeats 2000000 in
set_option maxRecDepth 100000 in
theorem grown_does (ra : Option Addr) (n rc : Nat) (rows : List Rw) (da : Option Addr) (m dc : Nat) (D : List DV) (hrl : rows.length = n) (hn : n ≤ 1000) (hup : RUps rows) (hdl : D.length = m) (hm : m ≤ 100)
    (hs : ∀ d ∈ D, d.2.2.length ≤ 14 ∧ ∀ c ∈ d.2.2, c.key.size ≤ 60 ∧ c.val.size ≤ 100) {φ : World → Prop} (hφ : ∀ w, φ w → LibOk w ∧ ValsAt w ra (rows.flatMap rwC) ∧ DLAt w da D) :
    Does Tryd.prog 51 #[.slice ra n rc, .slice da m dc] [.imm φ] (fun p : Nat => (.pointer (some ⟨p, 0, none⟩), [VerR p (growV rows (dss D)).1 (growV rows (dss D)).2, .imm φ])) := by
  have HN := vnew_does ra n rc rows hrl (by omega) hup.keys
  have HSS := Lib.hid hs
  have HGL := fun i => Lib.hid (gS_len (rows := rows) (i := i) fun d hd => (hs d hd).1)
  clear hs
  intro S W w L0 hO; simp only [List.cons_append, List.nil_append] at hO
  replace hO := hO.again.imp (ψ := fun w => ValsAt w ra (rows.flatMap rwC)) fun w h => (hφ w h).2.1
  ((try clear hf); have hf := hO.facts; (try simp only [FX, Nat.zero_add, Nat.reduceAdd, and_true, true_and, List.map_cons, List.map_nil, List.cons_append, List.nil_append] at hf))
  go_enter Tryd.func51, Tryd.ntmps51
  go_wp2_with (first | (go_at_call 26; (with_reducible apply Does.use hO (HN); (focus (repeat (first | with_reducible exact Takes.nil _ | with_reducible apply Takes.cons | with_reducible exact Pick.here _ _ | with_reducible apply Pick.there))); clear hO; intro x9 w9 hO; dsimp only at hO ⊢; simp only [List.cons_append, List.nil_append] at hO; ((try clear hf); have hf := hO.facts; (try simp only [FX, Nat.zero_add, Nat.reduceAdd, and_true, true_and, List.map_cons, List.map_nil, List.cons_append, List.nil_append] at hf)); rename Nat => p)) | ((first | with_reducible refine wpList_alloc_own hO ?_ | with_reducible refine wpList_drew_own hO ?_ | with_reducible refine wp_alloc_own hO ?_ | with_reducible refine wp_drew_own hO ?_ | with_reducible refine bodyPost_alloc_own hO ?_ | with_reducible refine bodyPost_drew_own hO ?_ | ((first | with_reducible apply wpList_set_own | with_reducible apply wp_set_own | with_reducible apply bodyPost_set_own); (focus (first | (with_reducible apply Own.set; (focus (with_reducible apply hO)); (repeat (first | with_reducible exact Put.here _ _ _ | with_reducible apply Put.there)); done) | (with_reducible apply Own.setRow; (focus (with_reducible apply hO)); (focus (repeat (first | with_reducible exact Put.here _ _ _ | with_reducible apply Put.there))); first | assumption | (simp; omega) | (simp; assumption)) | ((repeat' (first | with_reducible apply hO | with_reducible apply Own.set)); all_goals (repeat (first | with_reducible exact Put.here _ _ _ | with_reducible apply Put.there)); done))))); clear hO; intro w9 hO; (try dsimp only [List.set] at hO); ((try clear hf); have hf := hO.facts; (try simp only [FX, Nat.zero_add, Nat.reduceAdd, and_true, true_and, List.map_cons, List.map_nil, List.cons_append, List.nil_append] at hf))))
  rename Nat => p
  have hO9 := hO
  clear hO hf HN
  go_loopw [6] (fun v wr => ∃ i : Nat, v = .int .i64 i ∧ i ≤ m ∧ Own S W wr ([VerR p (gS rows D i).1 (gS rows D i).2, .imm φ] ++ L0)) (fun v _ => m - (intOf v).toNat)
  case atStart => exact ⟨0, rfl, by omega, by (try simp only [List.cons_append, List.nil_append]); exact (show Own S W _ (VerR p 0 (newV rows) :: .imm φ :: L0) from hO9.cut (by repeat (first | with_reducible apply Sub.cons | with_reducible exact Pick.here _ _ | with_reducible apply Pick.there | with_reducible apply Sub.base | with_reducible exact Keeps.here _ | with_reducible apply Keeps.skip)))⟩
  case round =>
    clear hO9
    obtain ⟨i, rfl, hi, hO⟩ := hrel
    rename World => w1
    simp only [List.cons_append, List.nil_append] at hO
    ((try clear hf); have hf := hO.facts; (try simp only [FX, Nat.zero_add, Nat.reduceAdd, and_true, true_and, List.map_cons, List.map_nil, List.cons_append, List.nil_append] at hf))
    by_cases hlt : i < m
    · have hi2 : i < D.length := by omega
      have hcd : (D.map dv)[i]? = some (dv D[i]) := by rw [List.getElem?_map, List.getElem?_eq_getElem hi2]; rfl
      obtain ⟨b, off, rfl⟩ := ValsAt.some (hφ _ (Own.immOf (φ := φ) hO (by repeat (first | with_reducible exact Pick.here _ _ | with_reducible apply Pick.there)))).2.2.1 hcd
      have hcell := fun w (h : φ w) => show w.cell? ⟨b, off + i, none⟩ = some (dv D[i]) from ValsAt.get (hφ w h).2.2.1 hcd
      have hch := fun w (h : φ w) => (hφ w h).2.2.2 _ (List.getElem_mem hi2)
      obtain ⟨hx14, hxc⟩ := HSS.out _ (List.getElem_mem hi2)
      have hst := gS_step (rows := rows) hi2
      obtain ⟨g1, g2, g3⟩ := (HGL i).out
      clear hcd
      generalize D[i] = x at *
      obtain ⟨xa, xc, xl⟩ := x
      dsimp only [dv] at hcell hch hx14 hxc hst
      have HST := Lib.hid hst
      clear hst
      have hG : ∀ e ∈ (gS rows D i).2, e.2.length ≤ 100000 := fun e he => by have := cnt_mem he; omega
      have HC := vcommit_does p (gS rows D i).1 (gS rows D i).2 xa xl.length xc xl rfl (by omega) (fun c hc => ⟨by have := (hxc c hc).1; omega, by have := (hxc c hc).2; omega⟩) (by omega) hG (φ := φ) fun w h => ⟨(hφ w h).1, hch w h⟩
      clear hG hxc g1 g2 g3
      have c0 := hcell _ (Own.immOf (φ := φ) hO (by repeat (first | with_reducible exact Pick.here _ _ | with_reducible apply Pick.there)))
      go_wp2_with (first | (go_at_call 27; (with_reducible apply Does.use hO (HC); (focus (repeat (first | with_reducible exact Takes.nil _ | with_reducible apply Takes.cons | with_reducible exact Pick.here _ _ | with_reducible apply Pick.there))); clear hO; intro x9 w9 hO; dsimp only at hO ⊢; simp only [List.cons_append, List.nil_append] at hO; ((try clear hf); have hf := hO.facts; (try simp only [FX, Nat.zero_add, Nat.reduceAdd, and_true, true_and, List.map_cons, List.map_nil, List.cons_append, List.nil_append] at hf)))) | ((first | with_reducible refine wpList_alloc_own hO ?_ | with_reducible refine wpList_drew_own hO ?_ | with_reducible refine wp_alloc_own hO ?_ | with_reducible refine wp_drew_own hO ?_ | with_reducible refine bodyPost_alloc_own hO ?_ | with_reducible refine bodyPost_drew_own hO ?_ | ((first | with_reducible apply wpList_set_own | with_reducible apply wp_set_own | with_reducible apply bodyPost_set_own); (focus (first | (with_reducible apply Own.set; (focus (with_reducible apply hO)); (repeat (first | with_reducible exact Put.here _ _ _ | with_reducible apply Put.there)); done) | (with_reducible apply Own.setRow; (focus (with_reducible apply hO)); (focus (repeat (first | with_reducible exact Put.here _ _ _ | with_reducible apply Put.there))); first | assumption | (simp; omega) | (simp; assumption)) | ((repeat' (first | with_reducible apply hO | with_reducible apply Own.set)); all_goals (repeat (first | with_reducible exact Put.here _ _ _ | with_reducible apply Put.there)); done))))); clear hO; intro w9 hO; (try dsimp only [List.set] at hO); ((try clear hf); have hf := hO.facts; (try simp only [FX, Nat.zero_add, Nat.reduceAdd, and_true, true_and, List.map_cons, List.map_nil, List.cons_append, List.nil_append] at hf))))
      refine ⟨⟨i + 1, by go_num, by omega, ?_⟩, by simp [intOf]; omega⟩
      rw [HST.out]
      (try simp only [List.cons_append, List.nil_append])
      exact (show Own S W _ (VerR p (comN (gS rows D i).1 xl) (commitV (gS rows D i).1 xl (gS rows D i).2) :: .imm φ :: L0) from hO.cut (by repeat (first | with_reducible apply Sub.cons | with_reducible exact Pick.here _ _ | with_reducible apply Pick.there | with_reducible apply Sub.base | with_reducible exact Keeps.here _ | with_reducible apply Keeps.skip)))
    · rw [gS_all (by omega)] at hO
      go_wp2_with (first | ((first | with_reducible refine wpList_alloc_own hO ?_ | with_reducible refine wpList_drew_own hO ?_ | with_reducible refine wp_alloc_own hO ?_ | with_reducible refine wp_drew_own hO ?_ | with_reducible refine bodyPost_alloc_own hO ?_ | with_reducible refine bodyPost_drew_own hO ?_ | ((first | with_reducible apply wpList_set_own | with_reducible apply wp_set_own | with_reducible apply bodyPost_set_own); (focus (first | (with_reducible apply Own.set; (focus (with_reducible apply hO)); (repeat (first | with_reducible exact Put.here _ _ _ | with_reducible apply Put.there)); done) | (with_reducible apply Own.setRow; (focus (with_reducible apply hO)); (focus (repeat (first | with_reducible exact Put.here _ _ _ | with_reducible apply Put.there))); first | assumption | (simp; omega) | (simp; assumption)) | ((repeat' (first | with_reducible apply hO | with_reducible apply Own.set)); all_goals (repeat (first | with_reducible exact Put.here _ _ _ | with_reducible apply Put.there)); done))))); clear hO; intro w9 hO; (try dsimp only [List.set] at hO); ((try clear hf); have hf := hO.facts; (try simp only [FX, Nat.zero_add, Nat.reduceAdd, and_true, true_and, List.map_cons, List.map_nil, List.cons_append, List.nil_append] at hf))))
      go_ret
      refine ⟨p, rfl, ?_⟩
      (try simp only [List.cons_append, List.nil_append])
      exact hO.cut (by repeat (first | with_reducible apply Sub.cons | with_reducible exact Pick.here _ _ | with_reducible apply Pick.there | with_reducible apply Sub.base | with_reducible exact Keeps.here _ | with_reducible apply Keeps.skip))
end Go.Proofs.YtpdnlgopbnkdhaaDoor
namespace Go.Proofs.YtpdnlgopbnkdhaaDoor
open Go.RowKit
theorem and1023 (a : Int) : 0 ≤ bits .and .i64 a 1023 ∧ bits .and .i64 a 1023 ≤ 1023 := by
  have h : (BitVec.ofInt 64 a &&& BitVec.ofInt 64 1023).toNat ≤ 1023 := by
    rw [BitVec.toNat_and]; exact Nat.le_trans Nat.and_le_right (by decide)
  show 0 ≤ IntKind.i64.wrap ((BitVec.ofInt 64 a &&& BitVec.ofInt 64 1023).toNat : Int) ∧ IntKind.i64.wrap ((BitVec.ofInt 64 a &&& BitVec.ofInt 64 1023).toNat : Int) ≤ 1023
  generalize (BitVec.ofInt 64 a &&& BitVec.ofInt 64 1023).toNat = n at *
  rw [IntKind.wrap_i64]; omega
theorem Own.varDv {S : Nat → Prop} {W w : World} {l : List Rs} {b : Nat} {v : Value} {t : TypeId} (h : Own S W w (Var b [v] t :: l)) : Own S W w (.imm (fun w => ValsAt w (some ⟨b, 0, none⟩) [v]) :: l) :=
  h.toImm (r := Var b [v] t) fun w hf => by
    refine .inr ⟨b, 0, rfl, fun i hi => ?_⟩
    exact Var.at (t := t) hf i _ (List.getElem?_eq_getElem hi)
/-- One deed of one change, laid out by the code itself. -/
theorem Own.closedG {S : Nat → Prop} {W w : World} {l l' : List Rs} {b d : Nat} {c : Ch} {cs : List Value} {t t' : TypeId} {ρ : World → Prop} (h : Own S W w l) (hc : c.cells = cs) (ht : Takes l [.imm ρ, Var b cs t, Var d [.slice (some ⟨b, 0, none⟩) 1 1] t'] l') :
    Own S W w (.imm (fun w => ρ w ∧ DLAt w (some ⟨d, 0, none⟩) [(some ⟨b, 0, none⟩, 1, [c])]) :: .imm ρ :: l') := by
  subst hc
  have h1 := h.take ht
  simp only [List.cons_append, List.nil_append] at h1
  have h2 := (h1.pick (.there _ (.here _ _))).varCh1
  have h3 := (h2.pick (.there _ (.there _ (.here _ _)))).varDv
  -- slice, change, ρ
  have h4 := h3.and
  have h5 := (h4.pick (.there _ (.here _ _))).again
  have h6 := (h5.pick (.there _ (.there _ (.here _ _))))
  have h7 := h6.and
  refine h7.imp fun w ⟨⟨h8, h9⟩, h10⟩ => ⟨h10, ?_, fun x hx => ?_⟩
  · exact h8
  · rw [List.mem_singleton.1 hx]; exact h9
def cTx : Ch := ⟨kTA, ⟨#[120]⟩, false⟩
theorem cTx_ok : chN cTx = 0 := by
  unfold chN
  rw [if_pos (show KeyOk cTx.key from kTA_key), if_neg (fun h => absurd h.1 (by decide)), if_neg (by decide)]
theorem dTx : deedN [cTx] = 0 := by
  unfold deedN
  rw [deed_first cTx_ok, deedFrom]
theorem growTx (rows : List Rw) : growV rows [[cTx]] = (1, putV 1 (newV rows) cTx) := by
  unfold growV
  show (comN 0 [cTx], commitV 0 [cTx] (newV rows)) = _
  unfold comN commitV
  rw [if_pos dTx, if_pos dTx]
  rfl
theorem cTx_light (b : Nat) : ∀ d ∈ ([(some ⟨b, 0, none⟩, 1, [cTx])] : List DV), d.2.2.length ≤ 14 ∧ ∀ c ∈ d.2.2, c.key.size ≤ 60 ∧ c.val.size ≤ 100 := fun d hd => by
  rw [List.mem_singleton.1 hd]
  exact ⟨by show ([cTx] : List Ch).length ≤ 14; simp, fun c hc => by rw [List.mem_singleton.1 hc]; decide⟩
/-- What the versions of light rows and deeds are. -/
structure GrV (rows : List Rw) (D : List DV) (nn : Nat) (V : List (ByteArray × List Vn)) : Prop where
  eq : growV rows (dss D) = (nn, V)
  inv : VInv nn V
  now : nn ≤ 12
  len : V.length ≤ 218
  cnt : cntV V ≤ 218
theorem GrV.of {rows : List Rw} {D : List DV} (hu : RUps rows) (h50 : rows.length ≤ 50) (hD : D.length ≤ 12) (h14 : ∀ d ∈ D, d.2.2.length ≤ 14) : ∃ nn V, GrV rows D nn V := by
  have h1 := gS_len (rows := rows) (i := 12) h14
  rw [gS_all hD] at h1
  refine ⟨(growV rows (dss D)).1, (growV rows (dss D)).2, rfl, ?_, h1.1, Nat.le_trans h1.2.1 (by omega), Nat.le_trans h1.2.2 (by omega)⟩
  exact grows_inv (dss D) (s := (0, newV rows)) (newV_inv hu)
theorem rowVals {w : World} {e : TypeId} {size n c : Nat} {a : Option Addr} {xs : List Value} (h : (Row2 e size a n c xs).facts w) : ValsAt w a xs := h.1
set_option maxHeartbeats 1000000 in
set_option maxRecDepth 100000 in
theorem vnowR (p nn : Nat) (V : List (ByteArray × List Vn)) : Reads Tryd.prog 37 #[.pointer (some ⟨p, 0, none⟩)] [VerR p nn V] (.int .i64 nn) := by
  intro w L0 hO; simp only [List.map_cons, List.map_nil, List.cons_append, List.nil_append] at hO; obtain ⟨⟨b, clock, L⟩, hO⟩ := hO.frzEx; replace hO := hO.frzMany; dsimp only at hO; simp only [List.map_cons, List.map_nil, List.cons_append, List.nil_append] at hO; ((try clear hf); have hf := hO.facts; (try simp only [FX, Nat.zero_add, Nat.reduceAdd, and_true, true_and, List.map_cons, List.map_nil, List.cons_append, List.nil_append] at hf))
  go_enter Tryd.func37, Tryd.ntmps37
  go_wp2_with (first | ((first | with_reducible refine wpList_alloc_own hO ?_ | with_reducible refine wpList_drew_own hO ?_ | with_reducible refine wp_alloc_own hO ?_ | with_reducible refine wp_drew_own hO ?_ | with_reducible refine bodyPost_alloc_own hO ?_ | with_reducible refine bodyPost_drew_own hO ?_ | ((first | with_reducible apply wpList_set_own | with_reducible apply wp_set_own | with_reducible apply bodyPost_set_own); (focus (first | (with_reducible apply Own.set; (focus (with_reducible apply hO)); (repeat (first | with_reducible exact Put.here _ _ _ | with_reducible apply Put.there)); done) | (with_reducible apply Own.setRow; (focus (with_reducible apply hO)); (focus (repeat (first | with_reducible exact Put.here _ _ _ | with_reducible apply Put.there))); first | assumption | (simp; omega) | (simp; assumption)) | ((repeat' (first | with_reducible apply hO | with_reducible apply Own.set)); all_goals (repeat (first | with_reducible exact Put.here _ _ _ | with_reducible apply Put.there)); done))))); clear hO; intro w9 hO; (try dsimp only [List.set] at hO); ((try clear hf); have hf := hO.facts; (try simp only [FX, Nat.zero_add, Nat.reduceAdd, and_true, true_and, List.map_cons, List.map_nil, List.cons_append, List.nil_append] at hf))))
  go_ret
  exact ⟨rfl, hO.toExt⟩
end Go.Proofs.YtpdnlgopbnkdhaaDoor
namespace Go.Proofs.YtpdnlgopbnkdhaaDoor
open Go.RowKit
theorem put_no {C : List Ch} {c : Ch} (h : putN C c ≠ 0) : putL C c = C := by unfold putL; rw [if_neg h]
theorem put_yes {C : List Ch} {c : Ch} (h : putN C c = 0) : putL C c = putC C c ∧ chN c = 0 ∧ (putC C c).length ≤ 12 := by
  have h2 := h
  unfold putN at h2
  by_cases hc : chN c ≠ 0
  · rw [if_pos hc] at h2; exact absurd h2 hc
  · rw [if_neg hc] at h2
    refine ⟨by unfold putL; rw [if_pos h], by omega, ?_⟩
    by_cases hl : 12 < (putC C c).length
    · rw [if_pos hl] at h2; cases h2
    · omega
theorem put_find {C : List Ch} {c : Ch} (h : putN C c = 0) (k : ByteArray) : findC (putL C c) k = if c.key = k then some c else findC C k := by
  rw [(put_yes h).1]
  by_cases hk : c.key = k
  · rw [if_pos hk, ← hk, find_put]
  · rw [if_neg hk, find_put_other (fun e => hk e.symm)]
theorem put_keep {C : List Ch} (c : Ch) (hU : Ups C) (h12 : C.length ≤ 12) : Ups (putL C c) ∧ (putL C c).length ≤ 12 := by
  by_cases h : putN C c = 0
  · obtain ⟨h1, _, h3⟩ := put_yes h
    rw [h1]; exact ⟨hU.put c, h3⟩
  · rw [put_no h]; exact ⟨hU, h12⟩
theorem size_of_nil : (⟨#[]⟩ : ByteArray).size = 0 := rfl
/-- Who put a row may delete it. -/
theorem del_after {C : List Ch} {S T : ByteArray} (h : putN C ⟨S, T, false⟩ = 0) : putN (putL C ⟨S, T, false⟩) ⟨S, ⟨#[]⟩, true⟩ = 0 := by
  obtain ⟨h1, h2, h3⟩ := put_yes h
  have hk : KeyOk S := by
    by_cases hk : KeyOk S
    · exact hk
    · rw [chN_no hk] at h2; cases h2
  have hc : chN ⟨S, ⟨#[]⟩, true⟩ = 0 := by
    unfold chN
    rw [if_pos hk, if_neg (fun h => h.2 rfl), if_neg (by simp [size_of_nil])]
  have hl : (putC (putC C ⟨S, T, false⟩) ⟨S, ⟨#[]⟩, true⟩).length ≤ 12 := by
    rw [put_same C ⟨S, T, false⟩ ⟨S, ⟨#[]⟩, true⟩ rfl]
    unfold putC at h3 ⊢
    simp only [List.length_append, List.length_cons] at h3 ⊢
    exact h3
  rw [h1]
  unfold putN
  rw [if_neg (by rw [hc]; simp), if_neg (by omega)]
/-- Is a row one's own; is it there; what it is. -/
def mineS (C : List Ch) (k : ByteArray) : Bool × Bool × ByteArray := match findC C k with
  | some c => (true, !c.gone, c.val)
  | none => (false, false, ⟨#[]⟩)
noncomputable def ownC (C : List Ch) (S T : ByteArray) (gone : Bool) : List Ch := if gone then putL (putL C ⟨S, T, false⟩) ⟨S, ⟨#[]⟩, true⟩ else putL C ⟨S, T, false⟩
noncomputable def ownN (C : List Ch) (S T : ByteArray) (gone : Bool) : Nat := if gone then putN (putL C ⟨S, T, false⟩) ⟨S, ⟨#[]⟩, true⟩ else putN C ⟨S, T, false⟩
theorem own_keep {C : List Ch} (S T : ByteArray) (gone : Bool) (hU : Ups C) (h12 : C.length ≤ 12) : Ups (ownC C S T gone) ∧ (ownC C S T gone).length ≤ 12 := by
  have h1 := put_keep ⟨S, T, false⟩ hU h12
  unfold ownC
  cases gone with
  | false => exact h1
  | true => exact put_keep _ h1.1 h1.2
theorem mine_put {C : List Ch} {c : Ch} (h : putN C c = 0) (k : ByteArray) : mineS (putL C c) k = if c.key = k then (true, !c.gone, c.val) else mineS C k := by
  unfold mineS
  rw [put_find h]
  by_cases hk : c.key = k
  · rw [if_pos hk, if_pos hk]
  · rw [if_neg hk, if_neg hk]
theorem own_no {C : List Ch} {S T k : ByteArray} {gone : Bool} (h : ownN C S T gone ≠ 0 ∨ S ≠ k) : mineS (ownC C S T gone) k = mineS C k := by
  have h1 : S ≠ k ∨ putN C ⟨S, T, false⟩ ≠ 0 → mineS (putL C ⟨S, T, false⟩) k = mineS C k := fun h => by
    by_cases h0 : putN C ⟨S, T, false⟩ = 0
    · rcases h with h | h
      · rw [mine_put h0, if_neg h]
      · exact absurd h0 h
    · rw [put_no h0]
  cases gone with
  | false =>
    exact h1 (h.elim .inr .inl)
  | true =>
    show mineS (putL (putL C ⟨S, T, false⟩) ⟨S, ⟨#[]⟩, true⟩) k = _
    by_cases h2 : putN (putL C ⟨S, T, false⟩) ⟨S, ⟨#[]⟩, true⟩ = 0
    · rcases h with h | h
      · exact absurd h2 h
      · rw [mine_put h2, if_neg h, h1 (.inl h)]
    · rw [put_no h2]
      exact h1 (.inr fun h0 => h2 (del_after h0))
theorem own_yes {C : List Ch} {S T : ByteArray} {gone : Bool} (h : ownN C S T gone = 0) : mineS (ownC C S T gone) S = (true, !gone, if gone then ⟨#[]⟩ else T) := by
  cases gone with
  | false => exact (mine_put (c := ⟨S, T, false⟩) h S).trans (if_pos rfl)
  | true => exact (mine_put (c := ⟨S, ⟨#[]⟩, true⟩) h S).trans (if_pos rfl)
theorem noteR_first (s : Sp) : noteN [] s = 0 ∧ noteR [] s = [s] := ⟨rfl, rfl⟩
theorem noteR_again (s : Sp) : noteN [s] s = 0 ∧ noteR [s] s = [s] := by
  have h : hasS [s] s = true := by unfold hasS eqS; simp
  unfold noteN noteR
  rw [if_pos h, if_pos h]
  exact ⟨rfl, rfl⟩
theorem get_first {V : List (ByteArray × List Vn)} {k : ByteArray} (hk : keyN k = 0) : getA V 0 [] [] k = ((readV V k 0).1, (readV V k 0).2, 0) ∧ getB [] [] k = [Sp.point k] := by
  have hk2 : ¬ keyN k ≠ 0 := fun h => h hk
  refine ⟨?_, ?_⟩
  · unfold getA; rw [if_neg hk2]; rfl
  · unfold getB; rw [if_neg hk2]; rfl
theorem get_again {V : List (ByteArray × List Vn)} {k : ByteArray} {C : List Ch} (hk : keyN k = 0) : getA V 0 C [Sp.point k] k = (if (mineS C k).1 then (mineS C k).2.2 else (readV V k 0).1, if (mineS C k).1 then (mineS C k).2.1 else (readV V k 0).2, 0) ∧ getB C [Sp.point k] k = [Sp.point k] := by
  obtain ⟨n1, n2⟩ := noteR_again (Sp.point k)
  have hk2 : ¬ keyN k ≠ 0 := fun h => h hk
  refine ⟨?_, ?_⟩
  · unfold getA mineS
    rw [if_neg hk2]
    cases findC C k with
    | some c => rfl
    | none =>
      dsimp only
      rw [if_neg (fun h => h n1)]
      rfl
  · unfold getB
    rw [if_neg hk2]
    cases findC C k with
    | some c => rfl
    | none => exact n2
theorem put_ax : putN [] cTx = 0 ∧ (putL [] cTx).length = 1 := by
  have h : putN [] cTx = 0 := by
    unfold putN
    rw [if_neg (by rw [cTx_ok]; simp), if_neg (by unfold putC low high; simp)]
  refine ⟨h, ?_⟩
  rw [(put_yes h).1]
  unfold putC low high
  simp
end Go.Proofs.YtpdnlgopbnkdhaaDoor
namespace Go.Proofs.YtpdnlgopbnkdhaaDoor
open Go.RowKit
def ToArg (ra : Option Addr) (rows : List Rw) (aa : Option Addr) (l : List Ac) (w : World) : Prop := LibOk w ∧ ValsAt w ra (rows.flatMap rwC) ∧ ActsAt w aa l
theorem ToArg.base {ra : Option Addr} {rows : List Rw} {aa : Option Addr} {l : List Ac} {w : World} (h : ToArg ra rows aa l w) : Own (fun _ => False) w w [.imm (ToArg ra rows aa l)] :=
  Own.base w _ fun w' hw' => ⟨h.1.up hw', vals_up h.2.1 hw', h.2.2.up (agree_up hw')⟩
theorem newV_nil : newV [] = [] := rfl
theorem own_put (C : List Ch) (S T : ByteArray) : putN C ⟨S, T, false⟩ = ownN C S T false ∧ putL C ⟨S, T, false⟩ = ownC C S T false := ⟨rfl, rfl⟩
theorem own_del (C : List Ch) (S T : ByteArray) : putN (putL C ⟨S, T, false⟩) ⟨S, ⟨#[]⟩, true⟩ = ownN C S T true ∧ putL (putL C ⟨S, T, false⟩) ⟨S, ⟨#[]⟩, true⟩ = ownC C S T true := ⟨rfl, rfl⟩
set_option maxHeartbeats 4000000 in
set_option maxRecDepth 100000 in
theorem topOwn_any (ra : Option Addr) (n rc : Nat) (rows : List Rw) (aa : Option Addr) (m ac : Nat) (l : List Ac) (key : ByteArray) (W : World) (hφ : ToArg ra rows aa l W) (hrl : rows.length = n) (hll : l.length = m)
    (hn : n ≤ 9223372036854775807) (hm : m ≤ 9223372036854775807) (hks : key.size ≤ 1048576) :
    Calls Tryd.prog 6 #[.slice ra n rc, .slice aa m ac, .string key] W fun e w' => e = .returned (.bool true) ∧ Ext W w' := by
  have hO := ((hφ.base.again).imp (ψ := LibOk) fun _ h => h.1)
  replace hO := hO.again.imp (ψ := fun w => ValsAt w none (([] : List Rw).flatMap rwC)) fun _ _ => .inl rfl
  have HG := fun w (h : ToArg ra rows aa l w) => goodRowsT_any ra n rc rows hrl hn w h.1 h.2.1
  have HL : ∀ w, ToArg ra rows aa l w → Calls Tryd.prog 11 #[.slice aa m ac, .int .i64 30] w fun e w' => e = .returned (.bool (lightActs l 30)) ∧ w' = w := fun w hA => by
    subst hll; exact lightActs_any aa ac l 30 w (by unfold maxLen; omega) (by omega) hA.2.2
  have HK := fun w (h : ToArg ra rows aa l w) => check_any key w h.1 (by omega)
  have HN0 := vnew_does none 0 0 [] rfl (by omega) .nil
  have HP0 := fun q p => vPut_does q p 0 [] [] ⟨#[116, 47, 97]⟩ ⟨#[120]⟩ (by decide) (by decide) (by simp) .nil (φ := LibOk) fun _ h => h
  obtain ⟨y1, y2⟩ := put_ax
  rw [show cTx = ⟨⟨#[116, 47, 97]⟩, ⟨#[120]⟩, false⟩ from rfl] at y1 y2
  rw [y1, show errV 0 = .nilIface from rfl] at HP0
  clear y1
  generalize putL [] ⟨⟨#[116, 47, 97]⟩, ⟨#[120]⟩, false⟩ = C0 at *
  have HC0 := fun q p => vChanges_does q p 0 C0 [] (by omega)
  rw [y2] at HC0
  clear y2
  cases hgr : goodR rows with
  | false =>
    rw [hgr] at HG
    go_enter Tryd.func6, Tryd.ntmps6
    go_wp2_with (first | (go_at_call 26; (with_reducible apply Does.use hO (HN0); (focus (repeat (first | with_reducible exact Takes.nil _ | with_reducible apply Takes.cons | with_reducible exact Pick.here _ _ | with_reducible apply Pick.there))); clear hO; intro x9 w9 hO; dsimp only at hO ⊢; simp only [List.cons_append, List.nil_append] at hO; ((try clear hf); have hf := hO.facts; (try simp only [FX, Nat.zero_add, Nat.reduceAdd, and_true, true_and, List.map_cons, List.map_nil, List.cons_append, List.nil_append] at hf)))) | (go_at_call 42; (with_reducible apply Does.use hO ((vwNew_does _ _ _)); (focus (repeat (first | with_reducible exact Takes.nil _ | with_reducible apply Takes.cons | with_reducible exact Pick.here _ _ | with_reducible apply Pick.there))); clear hO; intro x9 w9 hO; dsimp only at hO ⊢; simp only [List.cons_append, List.nil_append] at hO; ((try clear hf); have hf := hO.facts; (try simp only [FX, Nat.zero_add, Nat.reduceAdd, and_true, true_and, List.map_cons, List.map_nil, List.cons_append, List.nil_append] at hf)))) | (go_at_call 43; (with_reducible apply Does.use hO ((HP0 _ _)); (focus (repeat (first | with_reducible exact Takes.nil _ | with_reducible apply Takes.cons | with_reducible exact Pick.here _ _ | with_reducible apply Pick.there))); clear hO; intro x9 w9 hO; dsimp only at hO ⊢; simp only [List.cons_append, List.nil_append] at hO; ((try clear hf); have hf := hO.facts; (try simp only [FX, Nat.zero_add, Nat.reduceAdd, and_true, true_and, List.map_cons, List.map_nil, List.cons_append, List.nil_append] at hf)))) | (go_at_call 44; (with_reducible apply Does.use hO ((HC0 _ _)); (focus (repeat (first | with_reducible exact Takes.nil _ | with_reducible apply Takes.cons | with_reducible exact Pick.here _ _ | with_reducible apply Pick.there))); clear hO; intro x9 w9 hO; dsimp only at hO ⊢; simp only [List.cons_append, List.nil_append] at hO; ((try clear hf); have hf := hO.facts; (try simp only [FX, Nat.zero_add, Nat.reduceAdd, and_true, true_and, List.map_cons, List.map_nil, List.cons_append, List.nil_append] at hf)); (obtain ⟨k0a, k0c⟩ := x9; dsimp only at hO ⊢; ((try clear hf); have hf := hO.facts; (try simp only [FX, Nat.zero_add, Nat.reduceAdd, and_true, true_and, List.map_cons, List.map_nil, List.cons_append, List.nil_append] at hf))))) | (go_at_call 45; (with_reducible apply Calls.mono (HG _ (Own.immOf (φ := ToArg ra rows aa l) hO (by repeat (first | with_reducible exact Pick.here _ _ | with_reducible apply Pick.there)))); rintro e8 w8 ⟨rfl, hx8⟩; replace hO := hO.ext hx8; clear hx8; dsimp only; ((try clear hf); have hf := hO.facts; (try simp only [FX, Nat.zero_add, Nat.reduceAdd, and_true, true_and, List.map_cons, List.map_nil, List.cons_append, List.nil_append] at hf)))) | (go_at_call 11; (with_reducible apply Calls.mono (HL _ (Own.immOf (φ := ToArg ra rows aa l) hO (by repeat (first | with_reducible exact Pick.here _ _ | with_reducible apply Pick.there)))); rintro e8 w8 ⟨rfl, rfl⟩; dsimp only)) | (go_at_call 46; (with_reducible apply Calls.mono (HK _ (Own.immOf (φ := ToArg ra rows aa l) hO (by repeat (first | with_reducible exact Pick.here _ _ | with_reducible apply Pick.there)))); rintro e8 w8 ⟨rfl, hx8⟩; replace hO := hO.ext hx8; clear hx8; dsimp only; ((try clear hf); have hf := hO.facts; (try simp only [FX, Nat.zero_add, Nat.reduceAdd, and_true, true_and, List.map_cons, List.map_nil, List.cons_append, List.nil_append] at hf)))) | ((first | with_reducible refine wpList_alloc_own hO ?_ | with_reducible refine wpList_drew_own hO ?_ | with_reducible refine wp_alloc_own hO ?_ | with_reducible refine wp_drew_own hO ?_ | with_reducible refine bodyPost_alloc_own hO ?_ | with_reducible refine bodyPost_drew_own hO ?_ | ((first | with_reducible apply wpList_set_own | with_reducible apply wp_set_own | with_reducible apply bodyPost_set_own); (focus (first | (with_reducible apply Own.set; (focus (with_reducible apply hO)); (repeat (first | with_reducible exact Put.here _ _ _ | with_reducible apply Put.there)); done) | (with_reducible apply Own.setRow; (focus (with_reducible apply hO)); (focus (repeat (first | with_reducible exact Put.here _ _ _ | with_reducible apply Put.there))); first | assumption | (simp; omega) | (simp; assumption)) | ((repeat' (first | with_reducible apply hO | with_reducible apply Own.set)); all_goals (repeat (first | with_reducible exact Put.here _ _ _ | with_reducible apply Put.there)); done))))); clear hO; intro w9 hO; (try dsimp only [List.set] at hO); ((try clear hf); have hf := hO.facts; (try simp only [FX, Nat.zero_add, Nat.reduceAdd, and_true, true_and, List.map_cons, List.map_nil, List.cons_append, List.nil_append] at hf))))
    all_goals first | (exfalso; simp_all; done) | (go_ret; exact ⟨rfl, hO.toExt⟩)
  | true =>
  rw [hgr] at HG
  cases hla : lightActs l 30 with
  | false =>
    rw [hla] at HL
    go_enter Tryd.func6, Tryd.ntmps6
    go_wp2_with (first | (go_at_call 26; (with_reducible apply Does.use hO (HN0); (focus (repeat (first | with_reducible exact Takes.nil _ | with_reducible apply Takes.cons | with_reducible exact Pick.here _ _ | with_reducible apply Pick.there))); clear hO; intro x9 w9 hO; dsimp only at hO ⊢; simp only [List.cons_append, List.nil_append] at hO; ((try clear hf); have hf := hO.facts; (try simp only [FX, Nat.zero_add, Nat.reduceAdd, and_true, true_and, List.map_cons, List.map_nil, List.cons_append, List.nil_append] at hf)))) | (go_at_call 42; (with_reducible apply Does.use hO ((vwNew_does _ _ _)); (focus (repeat (first | with_reducible exact Takes.nil _ | with_reducible apply Takes.cons | with_reducible exact Pick.here _ _ | with_reducible apply Pick.there))); clear hO; intro x9 w9 hO; dsimp only at hO ⊢; simp only [List.cons_append, List.nil_append] at hO; ((try clear hf); have hf := hO.facts; (try simp only [FX, Nat.zero_add, Nat.reduceAdd, and_true, true_and, List.map_cons, List.map_nil, List.cons_append, List.nil_append] at hf)))) | (go_at_call 43; (with_reducible apply Does.use hO ((HP0 _ _)); (focus (repeat (first | with_reducible exact Takes.nil _ | with_reducible apply Takes.cons | with_reducible exact Pick.here _ _ | with_reducible apply Pick.there))); clear hO; intro x9 w9 hO; dsimp only at hO ⊢; simp only [List.cons_append, List.nil_append] at hO; ((try clear hf); have hf := hO.facts; (try simp only [FX, Nat.zero_add, Nat.reduceAdd, and_true, true_and, List.map_cons, List.map_nil, List.cons_append, List.nil_append] at hf)))) | (go_at_call 44; (with_reducible apply Does.use hO ((HC0 _ _)); (focus (repeat (first | with_reducible exact Takes.nil _ | with_reducible apply Takes.cons | with_reducible exact Pick.here _ _ | with_reducible apply Pick.there))); clear hO; intro x9 w9 hO; dsimp only at hO ⊢; simp only [List.cons_append, List.nil_append] at hO; ((try clear hf); have hf := hO.facts; (try simp only [FX, Nat.zero_add, Nat.reduceAdd, and_true, true_and, List.map_cons, List.map_nil, List.cons_append, List.nil_append] at hf)); (obtain ⟨k0a, k0c⟩ := x9; dsimp only at hO ⊢; ((try clear hf); have hf := hO.facts; (try simp only [FX, Nat.zero_add, Nat.reduceAdd, and_true, true_and, List.map_cons, List.map_nil, List.cons_append, List.nil_append] at hf))))) | (go_at_call 45; (with_reducible apply Calls.mono (HG _ (Own.immOf (φ := ToArg ra rows aa l) hO (by repeat (first | with_reducible exact Pick.here _ _ | with_reducible apply Pick.there)))); rintro e8 w8 ⟨rfl, hx8⟩; replace hO := hO.ext hx8; clear hx8; dsimp only; ((try clear hf); have hf := hO.facts; (try simp only [FX, Nat.zero_add, Nat.reduceAdd, and_true, true_and, List.map_cons, List.map_nil, List.cons_append, List.nil_append] at hf)))) | (go_at_call 11; (with_reducible apply Calls.mono (HL _ (Own.immOf (φ := ToArg ra rows aa l) hO (by repeat (first | with_reducible exact Pick.here _ _ | with_reducible apply Pick.there)))); rintro e8 w8 ⟨rfl, rfl⟩; dsimp only)) | (go_at_call 46; (with_reducible apply Calls.mono (HK _ (Own.immOf (φ := ToArg ra rows aa l) hO (by repeat (first | with_reducible exact Pick.here _ _ | with_reducible apply Pick.there)))); rintro e8 w8 ⟨rfl, hx8⟩; replace hO := hO.ext hx8; clear hx8; dsimp only; ((try clear hf); have hf := hO.facts; (try simp only [FX, Nat.zero_add, Nat.reduceAdd, and_true, true_and, List.map_cons, List.map_nil, List.cons_append, List.nil_append] at hf)))) | ((first | with_reducible refine wpList_alloc_own hO ?_ | with_reducible refine wpList_drew_own hO ?_ | with_reducible refine wp_alloc_own hO ?_ | with_reducible refine wp_drew_own hO ?_ | with_reducible refine bodyPost_alloc_own hO ?_ | with_reducible refine bodyPost_drew_own hO ?_ | ((first | with_reducible apply wpList_set_own | with_reducible apply wp_set_own | with_reducible apply bodyPost_set_own); (focus (first | (with_reducible apply Own.set; (focus (with_reducible apply hO)); (repeat (first | with_reducible exact Put.here _ _ _ | with_reducible apply Put.there)); done) | (with_reducible apply Own.setRow; (focus (with_reducible apply hO)); (focus (repeat (first | with_reducible exact Put.here _ _ _ | with_reducible apply Put.there))); first | assumption | (simp; omega) | (simp; assumption)) | ((repeat' (first | with_reducible apply hO | with_reducible apply Own.set)); all_goals (repeat (first | with_reducible exact Put.here _ _ _ | with_reducible apply Put.there)); done))))); clear hO; intro w9 hO; (try dsimp only [List.set] at hO); ((try clear hf); have hf := hO.facts; (try simp only [FX, Nat.zero_add, Nat.reduceAdd, and_true, true_and, List.map_cons, List.map_nil, List.cons_append, List.nil_append] at hf))))
    all_goals first | (exfalso; simp_all; done) | (go_ret; exact ⟨rfl, hO.toExt⟩)
  | true =>
  rw [hla] at HL
  have hm30 : m ≤ 30 := by have := lightActs_len hla; omega
  by_cases hkn : keyN key ≠ 0
  · generalize keyN key = N at *
    obtain ⟨N, rfl⟩ : ∃ N', N = N' + 1 := ⟨N - 1, by omega⟩
    rw [show ∀ N, errV (N + 1) = .iface 97 (.int .i64 ((N + 1 : Nat) : Int)) from fun _ => rfl] at HK
    go_enter Tryd.func6, Tryd.ntmps6
    go_wp2_with (first | (go_at_call 26; (with_reducible apply Does.use hO (HN0); (focus (repeat (first | with_reducible exact Takes.nil _ | with_reducible apply Takes.cons | with_reducible exact Pick.here _ _ | with_reducible apply Pick.there))); clear hO; intro x9 w9 hO; dsimp only at hO ⊢; simp only [List.cons_append, List.nil_append] at hO; ((try clear hf); have hf := hO.facts; (try simp only [FX, Nat.zero_add, Nat.reduceAdd, and_true, true_and, List.map_cons, List.map_nil, List.cons_append, List.nil_append] at hf)))) | (go_at_call 42; (with_reducible apply Does.use hO ((vwNew_does _ _ _)); (focus (repeat (first | with_reducible exact Takes.nil _ | with_reducible apply Takes.cons | with_reducible exact Pick.here _ _ | with_reducible apply Pick.there))); clear hO; intro x9 w9 hO; dsimp only at hO ⊢; simp only [List.cons_append, List.nil_append] at hO; ((try clear hf); have hf := hO.facts; (try simp only [FX, Nat.zero_add, Nat.reduceAdd, and_true, true_and, List.map_cons, List.map_nil, List.cons_append, List.nil_append] at hf)))) | (go_at_call 43; (with_reducible apply Does.use hO ((HP0 _ _)); (focus (repeat (first | with_reducible exact Takes.nil _ | with_reducible apply Takes.cons | with_reducible exact Pick.here _ _ | with_reducible apply Pick.there))); clear hO; intro x9 w9 hO; dsimp only at hO ⊢; simp only [List.cons_append, List.nil_append] at hO; ((try clear hf); have hf := hO.facts; (try simp only [FX, Nat.zero_add, Nat.reduceAdd, and_true, true_and, List.map_cons, List.map_nil, List.cons_append, List.nil_append] at hf)))) | (go_at_call 44; (with_reducible apply Does.use hO ((HC0 _ _)); (focus (repeat (first | with_reducible exact Takes.nil _ | with_reducible apply Takes.cons | with_reducible exact Pick.here _ _ | with_reducible apply Pick.there))); clear hO; intro x9 w9 hO; dsimp only at hO ⊢; simp only [List.cons_append, List.nil_append] at hO; ((try clear hf); have hf := hO.facts; (try simp only [FX, Nat.zero_add, Nat.reduceAdd, and_true, true_and, List.map_cons, List.map_nil, List.cons_append, List.nil_append] at hf)); (obtain ⟨k0a, k0c⟩ := x9; dsimp only at hO ⊢; ((try clear hf); have hf := hO.facts; (try simp only [FX, Nat.zero_add, Nat.reduceAdd, and_true, true_and, List.map_cons, List.map_nil, List.cons_append, List.nil_append] at hf))))) | (go_at_call 45; (with_reducible apply Calls.mono (HG _ (Own.immOf (φ := ToArg ra rows aa l) hO (by repeat (first | with_reducible exact Pick.here _ _ | with_reducible apply Pick.there)))); rintro e8 w8 ⟨rfl, hx8⟩; replace hO := hO.ext hx8; clear hx8; dsimp only; ((try clear hf); have hf := hO.facts; (try simp only [FX, Nat.zero_add, Nat.reduceAdd, and_true, true_and, List.map_cons, List.map_nil, List.cons_append, List.nil_append] at hf)))) | (go_at_call 11; (with_reducible apply Calls.mono (HL _ (Own.immOf (φ := ToArg ra rows aa l) hO (by repeat (first | with_reducible exact Pick.here _ _ | with_reducible apply Pick.there)))); rintro e8 w8 ⟨rfl, rfl⟩; dsimp only)) | (go_at_call 46; (with_reducible apply Calls.mono (HK _ (Own.immOf (φ := ToArg ra rows aa l) hO (by repeat (first | with_reducible exact Pick.here _ _ | with_reducible apply Pick.there)))); rintro e8 w8 ⟨rfl, hx8⟩; replace hO := hO.ext hx8; clear hx8; dsimp only; ((try clear hf); have hf := hO.facts; (try simp only [FX, Nat.zero_add, Nat.reduceAdd, and_true, true_and, List.map_cons, List.map_nil, List.cons_append, List.nil_append] at hf)))) | ((first | with_reducible refine wpList_alloc_own hO ?_ | with_reducible refine wpList_drew_own hO ?_ | with_reducible refine wp_alloc_own hO ?_ | with_reducible refine wp_drew_own hO ?_ | with_reducible refine bodyPost_alloc_own hO ?_ | with_reducible refine bodyPost_drew_own hO ?_ | ((first | with_reducible apply wpList_set_own | with_reducible apply wp_set_own | with_reducible apply bodyPost_set_own); (focus (first | (with_reducible apply Own.set; (focus (with_reducible apply hO)); (repeat (first | with_reducible exact Put.here _ _ _ | with_reducible apply Put.there)); done) | (with_reducible apply Own.setRow; (focus (with_reducible apply hO)); (focus (repeat (first | with_reducible exact Put.here _ _ _ | with_reducible apply Put.there))); first | assumption | (simp; omega) | (simp; assumption)) | ((repeat' (first | with_reducible apply hO | with_reducible apply Own.set)); all_goals (repeat (first | with_reducible exact Put.here _ _ _ | with_reducible apply Put.there)); done))))); clear hO; intro w9 hO; (try dsimp only [List.set] at hO); ((try clear hf); have hf := hO.facts; (try simp only [FX, Nat.zero_add, Nat.reduceAdd, and_true, true_and, List.map_cons, List.map_nil, List.cons_append, List.nil_append] at hf))))
    all_goals first | (exfalso; simp_all; done) | (go_ret; exact ⟨rfl, hO.toExt⟩)
  have hk0 : keyN key = 0 := by omega
  have hk15 : key.size ≤ 15 := key_size (by by_cases hk : KeyOk key; exact hk; rw [keyN_no hk] at hk0; cases hk0)
  rw [hk0, show errV 0 = .nilIface from rfl] at HK
  obtain ⟨h50, hup, _⟩ := goodR_ok hgr
  have HN := vnew_does ra n rc rows hrl (by omega) hup.keys
  have hVl : ∀ e ∈ newV rows, e.2.length ≤ 1000000 := fun e he => by have h1 := cnt_mem he; rw [cnt_new] at h1; omega
  have HGT1 := fun q p => vget_does q p 0 0 (newV rows) [] [] key (by omega) (by simp) .nil (by simp) hVl (φ := LibOk) fun _ h => h
  obtain ⟨g1, g2⟩ := get_first (V := newV rows) hk0
  rw [g1, g2] at HGT1
  dsimp only at HGT1
  rw [show errV 0 = .nilIface from rfl] at HGT1
  have HGT2 := fun q p C (hU : Ups C) (h12 : C.length ≤ 12) => vget_does q p 0 0 (newV rows) C [Sp.point key] key (by omega) (by omega) hU (by simp) hVl (φ := LibOk) fun _ h => h
  have g4 := fun C => (get_again (V := newV rows) (C := C) hk0).1
  have g5 := fun C => (get_again (V := newV rows) (C := C) hk0).2
  simp only [g4, g5] at HGT2
  rw [show errV 0 = .nilIface from rfl] at HGT2
  have HM := fun q p => vMark_does q p 0 [] [Sp.point key] (by simp)
  simp only [List.length_nil] at HM
  generalize Sp.point key = pt at *
  generalize readV (newV rows) key 0 = y at *
  generalize newV rows = V at *
  obtain ⟨yv, yb⟩ := y
  dsimp only at HGT1 HGT2
  clear g1 g2 g4 g5 hVl hkn hk0 hup hgr
  replace hO := ((hO.pick (r := .imm (ToArg ra rows aa l)) (by repeat (first | with_reducible exact Pick.here _ _ | with_reducible apply Pick.there))).again).imp (ψ := fun w => ValsAt w ra (rows.flatMap rwC)) fun _ h => h.2.1
  go_enter Tryd.func6, Tryd.ntmps6
  go_upto_region 7 with (first | (go_at_call 26; (with_reducible apply Does.use hO (HN0); (focus (repeat (first | with_reducible exact Takes.nil _ | with_reducible apply Takes.cons | with_reducible exact Pick.here _ _ | with_reducible apply Pick.there))); clear hO; intro x9 w9 hO; dsimp only at hO ⊢; simp only [List.cons_append, List.nil_append] at hO; ((try clear hf); have hf := hO.facts; (try simp only [FX, Nat.zero_add, Nat.reduceAdd, and_true, true_and, List.map_cons, List.map_nil, List.cons_append, List.nil_append] at hf)))) | (go_at_call 42; (with_reducible apply Does.use hO ((vwNew_does _ _ _)); (focus (repeat (first | with_reducible exact Takes.nil _ | with_reducible apply Takes.cons | with_reducible exact Pick.here _ _ | with_reducible apply Pick.there))); clear hO; intro x9 w9 hO; dsimp only at hO ⊢; simp only [List.cons_append, List.nil_append] at hO; ((try clear hf); have hf := hO.facts; (try simp only [FX, Nat.zero_add, Nat.reduceAdd, and_true, true_and, List.map_cons, List.map_nil, List.cons_append, List.nil_append] at hf)))) | (go_at_call 43; (with_reducible apply Does.use hO ((HP0 _ _)); (focus (repeat (first | with_reducible exact Takes.nil _ | with_reducible apply Takes.cons | with_reducible exact Pick.here _ _ | with_reducible apply Pick.there))); clear hO; intro x9 w9 hO; dsimp only at hO ⊢; simp only [List.cons_append, List.nil_append] at hO; ((try clear hf); have hf := hO.facts; (try simp only [FX, Nat.zero_add, Nat.reduceAdd, and_true, true_and, List.map_cons, List.map_nil, List.cons_append, List.nil_append] at hf)))) | (go_at_call 44; (with_reducible apply Does.use hO ((HC0 _ _)); (focus (repeat (first | with_reducible exact Takes.nil _ | with_reducible apply Takes.cons | with_reducible exact Pick.here _ _ | with_reducible apply Pick.there))); clear hO; intro x9 w9 hO; dsimp only at hO ⊢; simp only [List.cons_append, List.nil_append] at hO; ((try clear hf); have hf := hO.facts; (try simp only [FX, Nat.zero_add, Nat.reduceAdd, and_true, true_and, List.map_cons, List.map_nil, List.cons_append, List.nil_append] at hf)); (obtain ⟨k0a, k0c⟩ := x9; dsimp only at hO ⊢; ((try clear hf); have hf := hO.facts; (try simp only [FX, Nat.zero_add, Nat.reduceAdd, and_true, true_and, List.map_cons, List.map_nil, List.cons_append, List.nil_append] at hf))))) | (go_at_call 45; (with_reducible apply Calls.mono (HG _ (Own.immOf (φ := ToArg ra rows aa l) hO (by repeat (first | with_reducible exact Pick.here _ _ | with_reducible apply Pick.there)))); rintro e8 w8 ⟨rfl, hx8⟩; replace hO := hO.ext hx8; clear hx8; dsimp only; ((try clear hf); have hf := hO.facts; (try simp only [FX, Nat.zero_add, Nat.reduceAdd, and_true, true_and, List.map_cons, List.map_nil, List.cons_append, List.nil_append] at hf)))) | (go_at_call 11; (with_reducible apply Calls.mono (HL _ (Own.immOf (φ := ToArg ra rows aa l) hO (by repeat (first | with_reducible exact Pick.here _ _ | with_reducible apply Pick.there)))); rintro e8 w8 ⟨rfl, rfl⟩; dsimp only)) | (go_at_call 46; (with_reducible apply Calls.mono (HK _ (Own.immOf (φ := ToArg ra rows aa l) hO (by repeat (first | with_reducible exact Pick.here _ _ | with_reducible apply Pick.there)))); rintro e8 w8 ⟨rfl, hx8⟩; replace hO := hO.ext hx8; clear hx8; dsimp only; ((try clear hf); have hf := hO.facts; (try simp only [FX, Nat.zero_add, Nat.reduceAdd, and_true, true_and, List.map_cons, List.map_nil, List.cons_append, List.nil_append] at hf)))) | (go_at_call 26; (with_reducible apply Does.use hO (HN); (focus (repeat (first | with_reducible exact Takes.nil _ | with_reducible apply Takes.cons | with_reducible exact Pick.here _ _ | with_reducible apply Pick.there))); clear hO; intro x9 w9 hO; dsimp only at hO ⊢; simp only [List.cons_append, List.nil_append] at hO; ((try clear hf); have hf := hO.facts; (try simp only [FX, Nat.zero_add, Nat.reduceAdd, and_true, true_and, List.map_cons, List.map_nil, List.cons_append, List.nil_append] at hf)); rename Nat => p)) | ((first | with_reducible refine wpList_alloc_own hO ?_ | with_reducible refine wpList_drew_own hO ?_ | with_reducible refine wp_alloc_own hO ?_ | with_reducible refine wp_drew_own hO ?_ | with_reducible refine bodyPost_alloc_own hO ?_ | with_reducible refine bodyPost_drew_own hO ?_ | ((first | with_reducible apply wpList_set_own | with_reducible apply wp_set_own | with_reducible apply bodyPost_set_own); (focus (first | (with_reducible apply Own.set; (focus (with_reducible apply hO)); (repeat (first | with_reducible exact Put.here _ _ _ | with_reducible apply Put.there)); done) | (with_reducible apply Own.setRow; (focus (with_reducible apply hO)); (focus (repeat (first | with_reducible exact Put.here _ _ _ | with_reducible apply Put.there))); first | assumption | (simp; omega) | (simp; assumption)) | ((repeat' (first | with_reducible apply hO | with_reducible apply Own.set)); all_goals (repeat (first | with_reducible exact Put.here _ _ _ | with_reducible apply Put.there)); done))))); clear hO; intro w9 hO; (try dsimp only [List.set] at hO); ((try clear hf); have hf := hO.facts; (try simp only [FX, Nat.zero_add, Nat.reduceAdd, and_true, true_and, List.map_cons, List.map_nil, List.cons_append, List.nil_append] at hf))))
  go_upto_region 8 with (first | (go_at_call 42; (with_reducible apply Does.use hO ((vwNew_does _ _ _)); (focus (repeat (first | with_reducible exact Takes.nil _ | with_reducible apply Takes.cons | with_reducible exact Pick.here _ _ | with_reducible apply Pick.there))); clear hO; intro x9 w9 hO; dsimp only at hO ⊢; simp only [List.cons_append, List.nil_append] at hO; ((try clear hf); have hf := hO.facts; (try simp only [FX, Nat.zero_add, Nat.reduceAdd, and_true, true_and, List.map_cons, List.map_nil, List.cons_append, List.nil_append] at hf)); rename Nat => q)) | ((first | with_reducible refine wpList_alloc_own hO ?_ | with_reducible refine wpList_drew_own hO ?_ | with_reducible refine wp_alloc_own hO ?_ | with_reducible refine wp_drew_own hO ?_ | with_reducible refine bodyPost_alloc_own hO ?_ | with_reducible refine bodyPost_drew_own hO ?_ | ((first | with_reducible apply wpList_set_own | with_reducible apply wp_set_own | with_reducible apply bodyPost_set_own); (focus (first | (with_reducible apply Own.set; (focus (with_reducible apply hO)); (repeat (first | with_reducible exact Put.here _ _ _ | with_reducible apply Put.there)); done) | (with_reducible apply Own.setRow; (focus (with_reducible apply hO)); (focus (repeat (first | with_reducible exact Put.here _ _ _ | with_reducible apply Put.there))); first | assumption | (simp; omega) | (simp; assumption)) | ((repeat' (first | with_reducible apply hO | with_reducible apply Own.set)); all_goals (repeat (first | with_reducible exact Put.here _ _ _ | with_reducible apply Put.there)); done))))); clear hO; intro w9 hO; (try dsimp only [List.set] at hO); ((try clear hf); have hf := hO.facts; (try simp only [FX, Nat.zero_add, Nat.reduceAdd, and_true, true_and, List.map_cons, List.map_nil, List.cons_append, List.nil_append] at hf))))
  go_upto_region 9 with (first | (go_at_call 42; (with_reducible apply Does.use hO ((vwNew_does _ _ _)); (focus (repeat (first | with_reducible exact Takes.nil _ | with_reducible apply Takes.cons | with_reducible exact Pick.here _ _ | with_reducible apply Pick.there))); clear hO; intro x9 w9 hO; dsimp only at hO ⊢; simp only [List.cons_append, List.nil_append] at hO; ((try clear hf); have hf := hO.facts; (try simp only [FX, Nat.zero_add, Nat.reduceAdd, and_true, true_and, List.map_cons, List.map_nil, List.cons_append, List.nil_append] at hf)); rename Nat => o)) | ((first | with_reducible refine wpList_alloc_own hO ?_ | with_reducible refine wpList_drew_own hO ?_ | with_reducible refine wp_alloc_own hO ?_ | with_reducible refine wp_drew_own hO ?_ | with_reducible refine bodyPost_alloc_own hO ?_ | with_reducible refine bodyPost_drew_own hO ?_ | ((first | with_reducible apply wpList_set_own | with_reducible apply wp_set_own | with_reducible apply bodyPost_set_own); (focus (first | (with_reducible apply Own.set; (focus (with_reducible apply hO)); (repeat (first | with_reducible exact Put.here _ _ _ | with_reducible apply Put.there)); done) | (with_reducible apply Own.setRow; (focus (with_reducible apply hO)); (focus (repeat (first | with_reducible exact Put.here _ _ _ | with_reducible apply Put.there))); first | assumption | (simp; omega) | (simp; assumption)) | ((repeat' (first | with_reducible apply hO | with_reducible apply Own.set)); all_goals (repeat (first | with_reducible exact Put.here _ _ _ | with_reducible apply Put.there)); done))))); clear hO; intro w9 hO; (try dsimp only [List.set] at hO); ((try clear hf); have hf := hO.facts; (try simp only [FX, Nat.zero_add, Nat.reduceAdd, and_true, true_and, List.map_cons, List.map_nil, List.cons_append, List.nil_append] at hf))))
  go_wp2_with (first | (go_at_call 47; (with_reducible apply Does.use hO ((HGT1 _ _)); (focus (repeat (first | with_reducible exact Takes.nil _ | with_reducible apply Takes.cons | with_reducible exact Pick.here _ _ | with_reducible apply Pick.there))); clear hO; intro x9 w9 hO; dsimp only at hO ⊢; simp only [List.cons_append, List.nil_append] at hO; ((try clear hf); have hf := hO.facts; (try simp only [FX, Nat.zero_add, Nat.reduceAdd, and_true, true_and, List.map_cons, List.map_nil, List.cons_append, List.nil_append] at hf)))) | (go_at_call 48; (with_reducible apply Does.use hO ((HM _ _)); (focus (repeat (first | with_reducible exact Takes.nil _ | with_reducible apply Takes.cons | with_reducible exact Pick.here _ _ | with_reducible apply Pick.there))); clear hO; intro x9 w9 hO; dsimp only at hO ⊢; simp only [List.cons_append, List.nil_append] at hO; ((try clear hf); have hf := hO.facts; (try simp only [FX, Nat.zero_add, Nat.reduceAdd, and_true, true_and, List.map_cons, List.map_nil, List.cons_append, List.nil_append] at hf)); (obtain ⟨ma, mc⟩ := x9; dsimp only at hO ⊢; ((try clear hf); have hf := hO.facts; (try simp only [FX, Nat.zero_add, Nat.reduceAdd, and_true, true_and, List.map_cons, List.map_nil, List.cons_append, List.nil_append] at hf))))) | ((first | with_reducible refine wpList_alloc_own hO ?_ | with_reducible refine wpList_drew_own hO ?_ | with_reducible refine wp_alloc_own hO ?_ | with_reducible refine wp_drew_own hO ?_ | with_reducible refine bodyPost_alloc_own hO ?_ | with_reducible refine bodyPost_drew_own hO ?_ | ((first | with_reducible apply wpList_set_own | with_reducible apply wp_set_own | with_reducible apply bodyPost_set_own); (focus (first | (with_reducible apply Own.set; (focus (with_reducible apply hO)); (repeat (first | with_reducible exact Put.here _ _ _ | with_reducible apply Put.there)); done) | (with_reducible apply Own.setRow; (focus (with_reducible apply hO)); (focus (repeat (first | with_reducible exact Put.here _ _ _ | with_reducible apply Put.there))); first | assumption | (simp; omega) | (simp; assumption)) | ((repeat' (first | with_reducible apply hO | with_reducible apply Own.set)); all_goals (repeat (first | with_reducible exact Put.here _ _ _ | with_reducible apply Put.there)); done))))); clear hO; intro w9 hO; (try dsimp only [List.set] at hO); ((try clear hf); have hf := hO.facts; (try simp only [FX, Nat.zero_add, Nat.reduceAdd, and_true, true_and, List.map_cons, List.map_nil, List.cons_append, List.nil_append] at hf))))
  have hO := hO.rowCi (a := ma) (C := []) (by repeat (first | with_reducible exact Pick.here _ _ | with_reducible apply Pick.there))
  have hO9 := hO
  clear hO hf HN HM HN0 HP0 HC0 HG HL HK
  go_loopw [14, 15, 16, 17] (fun v14 v15 v16 v17 wr => ∃ (j : Nat) (C : List Ch), v14 = .string (mineS C key).2.2 ∧ v15 = .bool (mineS C key).2.1 ∧ v16 = .bool (mineS C key).1 ∧ v17 = .int .i64 j ∧ j ≤ m ∧ Hid (Ups C ∧ C.length ≤ 12) ∧
    Own (fun _ => False) W wr [ViewR q p 0 C [pt], ViewR o p 0 [] [], VerR p 0 V, .imm (fun w => ChAt w ma []), .imm LibOk, .imm (ToArg ra rows aa l)]) (fun _ _ _ v _ => m - (intOf v).toNat)
  case atStart => exact ⟨0, [], rfl, rfl, rfl, rfl, by omega, Lib.hid ⟨.nil, by simp⟩, hO9.cut (by repeat (first | with_reducible apply Sub.cons | with_reducible exact Pick.here _ _ | with_reducible apply Pick.there | with_reducible apply Sub.base | with_reducible exact Keeps.here _ | with_reducible apply Keeps.skip))⟩
  case round =>
    clear hO9
    obtain ⟨j, C, rfl, rfl, rfl, rfl, hj, HI, hO⟩ := hrel
    rename World => w1
    ((try clear hf); have hf := hO.facts; (try simp only [FX, Nat.zero_add, Nat.reduceAdd, and_true, true_and, List.map_cons, List.map_nil, List.cons_append, List.nil_append] at hf))
    by_cases hlt : j < m
    · have hj2 : j < l.length := by omega
      have hxl := List.getElem_mem hj2
      obtain ⟨hxs, hxt, _, _, _⟩ := lightActs_at hla hxl
      have hA0 := (Own.immOf (φ := ToArg ra rows aa l) hO (by repeat (first | with_reducible exact Pick.here _ _ | with_reducible apply Pick.there))).2.2
      rcases hA0.1 with h0 | ⟨b, off, rfl, hc⟩
      · rw [h0] at hj2; simp at hj2
      have hcell := fun w (h : ToArg ra rows (some ⟨b, off, none⟩) l w) => show AcAt w b (off + j * 9) l[j] from by
        rcases h.2.2.1 with h0 | ⟨b', off', he, hc⟩
        · rw [h0] at hj2; simp at hj2
        · simp only [Option.some.injEq, Addr.mk.injEq, and_true] at he
          obtain ⟨rfl, rfl⟩ := he
          exact hc j hj2
      clear hc hA0 hxl
      generalize l[j] = x at *
      obtain ⟨xkind, xA, xB, xC, xK, xS, xT, xcp, xcc, xch, xsp, xsc, xspn⟩ := x
      dsimp only at *
      clear hφ
      obtain ⟨k0, k1, k2, k3, k4, k5, k6, k7, k8⟩ := hcell _ (Own.immOf (φ := ToArg ra rows (some ⟨b, off, none⟩) l) hO (by repeat (first | with_reducible exact Pick.here _ _ | with_reducible apply Pick.there)))
      obtain ⟨hU, h12⟩ := HI.out
      have HP := vPut_does q p 0 C [pt] xS xT (by omega) (by omega) (by omega) hU (φ := LibOk) fun _ h => h
      cases hkind : xkind.toList == [100, 101, 108, 101, 116, 101] with
      | false =>
        rw [(own_put C xS xT).1, (own_put C xS xT).2] at HP
        have HI2 := Lib.hid (own_keep xS xT false hU h12)
        have hN0 := fun h : ownN C xS xT false ≠ 0 ∨ xS ≠ key => own_no (k := key) h
        have hN1 := fun h : ownN C xS xT false = 0 => own_yes h
        generalize ownC C xS xT false = C' at *
        generalize ownN C xS xT false = N at *
        by_cases hn0 : N = 0
        · rw [hn0, show errV 0 = .nilIface from rfl] at HP
          by_cases hsk : xS = key
          · have hmine := hN1 hn0
            rw [hsk] at hmine
            have hsk2 : (xS.toList == key.toList) = true := by rw [hsk]; simp
            clear hN0 hN1 hn0 hsk
            ((try clear hf); have hf := hO.facts; (try simp only [FX, Nat.zero_add, Nat.reduceAdd, and_true, true_and, List.map_cons, List.map_nil, List.cons_append, List.nil_append] at hf))
            go_upto_region 20 with (((first | with_reducible refine wpList_alloc_own hO ?_ | with_reducible refine wpList_drew_own hO ?_ | with_reducible refine wp_alloc_own hO ?_ | with_reducible refine wp_drew_own hO ?_ | with_reducible refine bodyPost_alloc_own hO ?_ | with_reducible refine bodyPost_drew_own hO ?_ | ((first | with_reducible apply wpList_set_own | with_reducible apply wp_set_own | with_reducible apply bodyPost_set_own); (focus (first | (with_reducible apply Own.set; (focus (with_reducible apply hO)); (repeat (first | with_reducible exact Put.here _ _ _ | with_reducible apply Put.there)); done) | (with_reducible apply Own.setRow; (focus (with_reducible apply hO)); (focus (repeat (first | with_reducible exact Put.here _ _ _ | with_reducible apply Put.there))); first | assumption | (simp; omega) | (simp; assumption)) | ((repeat' (first | with_reducible apply hO | with_reducible apply Own.set)); all_goals (repeat (first | with_reducible exact Put.here _ _ _ | with_reducible apply Put.there)); done))))); clear hO; intro w9 hO; (try dsimp only [List.set] at hO); ((try clear hf); have hf := hO.facts; (try simp only [FX, Nat.zero_add, Nat.reduceAdd, and_true, true_and, List.map_cons, List.map_nil, List.cons_append, List.nil_append] at hf))))
            go_wp2_with (first | (go_at_call 43; (with_reducible apply Does.use hO (HP); (focus (repeat (first | with_reducible exact Takes.nil _ | with_reducible apply Takes.cons | with_reducible exact Pick.here _ _ | with_reducible apply Pick.there))); clear hO; intro x9 w9 hO; dsimp only at hO ⊢; simp only [List.cons_append, List.nil_append] at hO; ((try clear hf); have hf := hO.facts; (try simp only [FX, Nat.zero_add, Nat.reduceAdd, and_true, true_and, List.map_cons, List.map_nil, List.cons_append, List.nil_append] at hf)))) | (go_at_call 49; (with_reducible apply Does.use hO (HD); (focus (repeat (first | with_reducible exact Takes.nil _ | with_reducible apply Takes.cons | with_reducible exact Pick.here _ _ | with_reducible apply Pick.there))); clear hO; intro x9 w9 hO; dsimp only at hO ⊢; simp only [List.cons_append, List.nil_append] at hO; ((try clear hf); have hf := hO.facts; (try simp only [FX, Nat.zero_add, Nat.reduceAdd, and_true, true_and, List.map_cons, List.map_nil, List.cons_append, List.nil_append] at hf)))) | ((first | with_reducible refine wpList_alloc_own hO ?_ | with_reducible refine wpList_drew_own hO ?_ | with_reducible refine wp_alloc_own hO ?_ | with_reducible refine wp_drew_own hO ?_ | with_reducible refine bodyPost_alloc_own hO ?_ | with_reducible refine bodyPost_drew_own hO ?_ | ((first | with_reducible apply wpList_set_own | with_reducible apply wp_set_own | with_reducible apply bodyPost_set_own); (focus (first | (with_reducible apply Own.set; (focus (with_reducible apply hO)); (repeat (first | with_reducible exact Put.here _ _ _ | with_reducible apply Put.there)); done) | (with_reducible apply Own.setRow; (focus (with_reducible apply hO)); (focus (repeat (first | with_reducible exact Put.here _ _ _ | with_reducible apply Put.there))); first | assumption | (simp; omega) | (simp; assumption)) | ((repeat' (first | with_reducible apply hO | with_reducible apply Own.set)); all_goals (repeat (first | with_reducible exact Put.here _ _ _ | with_reducible apply Put.there)); done))))); clear hO; intro w9 hO; (try dsimp only [List.set] at hO); ((try clear hf); have hf := hO.facts; (try simp only [FX, Nat.zero_add, Nat.reduceAdd, and_true, true_and, List.map_cons, List.map_nil, List.cons_append, List.nil_append] at hf))))
            (exact ⟨⟨j + 1, C', by rw [hmine] <;> rfl, by rw [hmine] <;> rfl, by rw [hmine] <;> rfl, by go_num, by omega, HI2, hO.cut (by repeat (first | with_reducible apply Sub.cons | with_reducible exact Pick.here _ _ | with_reducible apply Pick.there | with_reducible apply Sub.base | with_reducible exact Keeps.here _ | with_reducible apply Keeps.skip))⟩, by simp [intOf]; omega⟩)
          · have hmine := hN0 (.inr hsk)
            have hsk2 : (xS.toList == key.toList) = false := by
              cases h : xS.toList == key.toList with
              | false => rfl
              | true => exact absurd (toList_inj (by simpa using h)) hsk
            clear hN0 hN1 hn0
            ((try clear hf); have hf := hO.facts; (try simp only [FX, Nat.zero_add, Nat.reduceAdd, and_true, true_and, List.map_cons, List.map_nil, List.cons_append, List.nil_append] at hf))
            go_upto_region 20 with (((first | with_reducible refine wpList_alloc_own hO ?_ | with_reducible refine wpList_drew_own hO ?_ | with_reducible refine wp_alloc_own hO ?_ | with_reducible refine wp_drew_own hO ?_ | with_reducible refine bodyPost_alloc_own hO ?_ | with_reducible refine bodyPost_drew_own hO ?_ | ((first | with_reducible apply wpList_set_own | with_reducible apply wp_set_own | with_reducible apply bodyPost_set_own); (focus (first | (with_reducible apply Own.set; (focus (with_reducible apply hO)); (repeat (first | with_reducible exact Put.here _ _ _ | with_reducible apply Put.there)); done) | (with_reducible apply Own.setRow; (focus (with_reducible apply hO)); (focus (repeat (first | with_reducible exact Put.here _ _ _ | with_reducible apply Put.there))); first | assumption | (simp; omega) | (simp; assumption)) | ((repeat' (first | with_reducible apply hO | with_reducible apply Own.set)); all_goals (repeat (first | with_reducible exact Put.here _ _ _ | with_reducible apply Put.there)); done))))); clear hO; intro w9 hO; (try dsimp only [List.set] at hO); ((try clear hf); have hf := hO.facts; (try simp only [FX, Nat.zero_add, Nat.reduceAdd, and_true, true_and, List.map_cons, List.map_nil, List.cons_append, List.nil_append] at hf))))
            go_wp2_with (first | (go_at_call 43; (with_reducible apply Does.use hO (HP); (focus (repeat (first | with_reducible exact Takes.nil _ | with_reducible apply Takes.cons | with_reducible exact Pick.here _ _ | with_reducible apply Pick.there))); clear hO; intro x9 w9 hO; dsimp only at hO ⊢; simp only [List.cons_append, List.nil_append] at hO; ((try clear hf); have hf := hO.facts; (try simp only [FX, Nat.zero_add, Nat.reduceAdd, and_true, true_and, List.map_cons, List.map_nil, List.cons_append, List.nil_append] at hf)))) | (go_at_call 49; (with_reducible apply Does.use hO (HD); (focus (repeat (first | with_reducible exact Takes.nil _ | with_reducible apply Takes.cons | with_reducible exact Pick.here _ _ | with_reducible apply Pick.there))); clear hO; intro x9 w9 hO; dsimp only at hO ⊢; simp only [List.cons_append, List.nil_append] at hO; ((try clear hf); have hf := hO.facts; (try simp only [FX, Nat.zero_add, Nat.reduceAdd, and_true, true_and, List.map_cons, List.map_nil, List.cons_append, List.nil_append] at hf)))) | ((first | with_reducible refine wpList_alloc_own hO ?_ | with_reducible refine wpList_drew_own hO ?_ | with_reducible refine wp_alloc_own hO ?_ | with_reducible refine wp_drew_own hO ?_ | with_reducible refine bodyPost_alloc_own hO ?_ | with_reducible refine bodyPost_drew_own hO ?_ | ((first | with_reducible apply wpList_set_own | with_reducible apply wp_set_own | with_reducible apply bodyPost_set_own); (focus (first | (with_reducible apply Own.set; (focus (with_reducible apply hO)); (repeat (first | with_reducible exact Put.here _ _ _ | with_reducible apply Put.there)); done) | (with_reducible apply Own.setRow; (focus (with_reducible apply hO)); (focus (repeat (first | with_reducible exact Put.here _ _ _ | with_reducible apply Put.there))); first | assumption | (simp; omega) | (simp; assumption)) | ((repeat' (first | with_reducible apply hO | with_reducible apply Own.set)); all_goals (repeat (first | with_reducible exact Put.here _ _ _ | with_reducible apply Put.there)); done))))); clear hO; intro w9 hO; (try dsimp only [List.set] at hO); ((try clear hf); have hf := hO.facts; (try simp only [FX, Nat.zero_add, Nat.reduceAdd, and_true, true_and, List.map_cons, List.map_nil, List.cons_append, List.nil_append] at hf))))
            (exact ⟨⟨j + 1, C', by rw [hmine] <;> rfl, by rw [hmine] <;> rfl, by rw [hmine] <;> rfl, by go_num, by omega, HI2, hO.cut (by repeat (first | with_reducible apply Sub.cons | with_reducible exact Pick.here _ _ | with_reducible apply Pick.there | with_reducible apply Sub.base | with_reducible exact Keeps.here _ | with_reducible apply Keeps.skip))⟩, by simp [intOf]; omega⟩)
        · have hmine := hN0 (.inl hn0)
          obtain ⟨N, rfl⟩ : ∃ N', N = N' + 1 := ⟨N - 1, by omega⟩
          rw [show errV (N + 1) = .iface 97 (.int .i64 ((N + 1 : Nat) : Int)) from rfl] at HP
          clear hN0 hN1 hn0
          ((try clear hf); have hf := hO.facts; (try simp only [FX, Nat.zero_add, Nat.reduceAdd, and_true, true_and, List.map_cons, List.map_nil, List.cons_append, List.nil_append] at hf))
          go_upto_region 20 with (((first | with_reducible refine wpList_alloc_own hO ?_ | with_reducible refine wpList_drew_own hO ?_ | with_reducible refine wp_alloc_own hO ?_ | with_reducible refine wp_drew_own hO ?_ | with_reducible refine bodyPost_alloc_own hO ?_ | with_reducible refine bodyPost_drew_own hO ?_ | ((first | with_reducible apply wpList_set_own | with_reducible apply wp_set_own | with_reducible apply bodyPost_set_own); (focus (first | (with_reducible apply Own.set; (focus (with_reducible apply hO)); (repeat (first | with_reducible exact Put.here _ _ _ | with_reducible apply Put.there)); done) | (with_reducible apply Own.setRow; (focus (with_reducible apply hO)); (focus (repeat (first | with_reducible exact Put.here _ _ _ | with_reducible apply Put.there))); first | assumption | (simp; omega) | (simp; assumption)) | ((repeat' (first | with_reducible apply hO | with_reducible apply Own.set)); all_goals (repeat (first | with_reducible exact Put.here _ _ _ | with_reducible apply Put.there)); done))))); clear hO; intro w9 hO; (try dsimp only [List.set] at hO); ((try clear hf); have hf := hO.facts; (try simp only [FX, Nat.zero_add, Nat.reduceAdd, and_true, true_and, List.map_cons, List.map_nil, List.cons_append, List.nil_append] at hf))))
          go_wp2_with (first | (go_at_call 43; (with_reducible apply Does.use hO (HP); (focus (repeat (first | with_reducible exact Takes.nil _ | with_reducible apply Takes.cons | with_reducible exact Pick.here _ _ | with_reducible apply Pick.there))); clear hO; intro x9 w9 hO; dsimp only at hO ⊢; simp only [List.cons_append, List.nil_append] at hO; ((try clear hf); have hf := hO.facts; (try simp only [FX, Nat.zero_add, Nat.reduceAdd, and_true, true_and, List.map_cons, List.map_nil, List.cons_append, List.nil_append] at hf)))) | (go_at_call 49; (with_reducible apply Does.use hO (HD); (focus (repeat (first | with_reducible exact Takes.nil _ | with_reducible apply Takes.cons | with_reducible exact Pick.here _ _ | with_reducible apply Pick.there))); clear hO; intro x9 w9 hO; dsimp only at hO ⊢; simp only [List.cons_append, List.nil_append] at hO; ((try clear hf); have hf := hO.facts; (try simp only [FX, Nat.zero_add, Nat.reduceAdd, and_true, true_and, List.map_cons, List.map_nil, List.cons_append, List.nil_append] at hf)))) | ((first | with_reducible refine wpList_alloc_own hO ?_ | with_reducible refine wpList_drew_own hO ?_ | with_reducible refine wp_alloc_own hO ?_ | with_reducible refine wp_drew_own hO ?_ | with_reducible refine bodyPost_alloc_own hO ?_ | with_reducible refine bodyPost_drew_own hO ?_ | ((first | with_reducible apply wpList_set_own | with_reducible apply wp_set_own | with_reducible apply bodyPost_set_own); (focus (first | (with_reducible apply Own.set; (focus (with_reducible apply hO)); (repeat (first | with_reducible exact Put.here _ _ _ | with_reducible apply Put.there)); done) | (with_reducible apply Own.setRow; (focus (with_reducible apply hO)); (focus (repeat (first | with_reducible exact Put.here _ _ _ | with_reducible apply Put.there))); first | assumption | (simp; omega) | (simp; assumption)) | ((repeat' (first | with_reducible apply hO | with_reducible apply Own.set)); all_goals (repeat (first | with_reducible exact Put.here _ _ _ | with_reducible apply Put.there)); done))))); clear hO; intro w9 hO; (try dsimp only [List.set] at hO); ((try clear hf); have hf := hO.facts; (try simp only [FX, Nat.zero_add, Nat.reduceAdd, and_true, true_and, List.map_cons, List.map_nil, List.cons_append, List.nil_append] at hf))))
          (exact ⟨⟨j + 1, C', by rw [hmine] <;> rfl, by rw [hmine] <;> rfl, by rw [hmine] <;> rfl, by go_num, by omega, HI2, hO.cut (by repeat (first | with_reducible apply Sub.cons | with_reducible exact Pick.here _ _ | with_reducible apply Pick.there | with_reducible apply Sub.base | with_reducible exact Keeps.here _ | with_reducible apply Keeps.skip))⟩, by simp [intOf]; omega⟩)
      | true =>
        have HI1 := put_keep ⟨xS, xT, false⟩ hU h12
        have HD := vDelete_does q p 0 (putL C ⟨xS, xT, false⟩) [pt] xS (by omega) (by omega) HI1.1 (φ := LibOk) fun _ h => h
        rw [(own_del C xS xT).1, (own_del C xS xT).2] at HD
        have HI2 := Lib.hid (own_keep xS xT true hU h12)
        have hN0 := fun h : ownN C xS xT true ≠ 0 ∨ xS ≠ key => own_no (k := key) h
        have hN1 := fun h : ownN C xS xT true = 0 => own_yes h
        generalize ownC C xS xT true = C' at *
        generalize ownN C xS xT true = N at *
        generalize putL C ⟨xS, xT, false⟩ = C1 at *
        generalize putN C ⟨xS, xT, false⟩ = N1 at *
        generalize errV N1 = ev1 at *
        clear HI1
        by_cases hn0 : N = 0
        · rw [hn0, show errV 0 = .nilIface from rfl] at HD
          by_cases hsk : xS = key
          · have hmine := hN1 hn0
            rw [hsk] at hmine
            have hsk2 : (xS.toList == key.toList) = true := by rw [hsk]; simp
            clear hN0 hN1 hn0 hsk
            ((try clear hf); have hf := hO.facts; (try simp only [FX, Nat.zero_add, Nat.reduceAdd, and_true, true_and, List.map_cons, List.map_nil, List.cons_append, List.nil_append] at hf))
            go_upto_region 20 with (((first | with_reducible refine wpList_alloc_own hO ?_ | with_reducible refine wpList_drew_own hO ?_ | with_reducible refine wp_alloc_own hO ?_ | with_reducible refine wp_drew_own hO ?_ | with_reducible refine bodyPost_alloc_own hO ?_ | with_reducible refine bodyPost_drew_own hO ?_ | ((first | with_reducible apply wpList_set_own | with_reducible apply wp_set_own | with_reducible apply bodyPost_set_own); (focus (first | (with_reducible apply Own.set; (focus (with_reducible apply hO)); (repeat (first | with_reducible exact Put.here _ _ _ | with_reducible apply Put.there)); done) | (with_reducible apply Own.setRow; (focus (with_reducible apply hO)); (focus (repeat (first | with_reducible exact Put.here _ _ _ | with_reducible apply Put.there))); first | assumption | (simp; omega) | (simp; assumption)) | ((repeat' (first | with_reducible apply hO | with_reducible apply Own.set)); all_goals (repeat (first | with_reducible exact Put.here _ _ _ | with_reducible apply Put.there)); done))))); clear hO; intro w9 hO; (try dsimp only [List.set] at hO); ((try clear hf); have hf := hO.facts; (try simp only [FX, Nat.zero_add, Nat.reduceAdd, and_true, true_and, List.map_cons, List.map_nil, List.cons_append, List.nil_append] at hf))))
            go_wp2_with (first | (go_at_call 43; (with_reducible apply Does.use hO (HP); (focus (repeat (first | with_reducible exact Takes.nil _ | with_reducible apply Takes.cons | with_reducible exact Pick.here _ _ | with_reducible apply Pick.there))); clear hO; intro x9 w9 hO; dsimp only at hO ⊢; simp only [List.cons_append, List.nil_append] at hO; ((try clear hf); have hf := hO.facts; (try simp only [FX, Nat.zero_add, Nat.reduceAdd, and_true, true_and, List.map_cons, List.map_nil, List.cons_append, List.nil_append] at hf)))) | (go_at_call 49; (with_reducible apply Does.use hO (HD); (focus (repeat (first | with_reducible exact Takes.nil _ | with_reducible apply Takes.cons | with_reducible exact Pick.here _ _ | with_reducible apply Pick.there))); clear hO; intro x9 w9 hO; dsimp only at hO ⊢; simp only [List.cons_append, List.nil_append] at hO; ((try clear hf); have hf := hO.facts; (try simp only [FX, Nat.zero_add, Nat.reduceAdd, and_true, true_and, List.map_cons, List.map_nil, List.cons_append, List.nil_append] at hf)))) | ((first | with_reducible refine wpList_alloc_own hO ?_ | with_reducible refine wpList_drew_own hO ?_ | with_reducible refine wp_alloc_own hO ?_ | with_reducible refine wp_drew_own hO ?_ | with_reducible refine bodyPost_alloc_own hO ?_ | with_reducible refine bodyPost_drew_own hO ?_ | ((first | with_reducible apply wpList_set_own | with_reducible apply wp_set_own | with_reducible apply bodyPost_set_own); (focus (first | (with_reducible apply Own.set; (focus (with_reducible apply hO)); (repeat (first | with_reducible exact Put.here _ _ _ | with_reducible apply Put.there)); done) | (with_reducible apply Own.setRow; (focus (with_reducible apply hO)); (focus (repeat (first | with_reducible exact Put.here _ _ _ | with_reducible apply Put.there))); first | assumption | (simp; omega) | (simp; assumption)) | ((repeat' (first | with_reducible apply hO | with_reducible apply Own.set)); all_goals (repeat (first | with_reducible exact Put.here _ _ _ | with_reducible apply Put.there)); done))))); clear hO; intro w9 hO; (try dsimp only [List.set] at hO); ((try clear hf); have hf := hO.facts; (try simp only [FX, Nat.zero_add, Nat.reduceAdd, and_true, true_and, List.map_cons, List.map_nil, List.cons_append, List.nil_append] at hf))))
            (exact ⟨⟨j + 1, C', by rw [hmine] <;> rfl, by rw [hmine] <;> rfl, by rw [hmine] <;> rfl, by go_num, by omega, HI2, hO.cut (by repeat (first | with_reducible apply Sub.cons | with_reducible exact Pick.here _ _ | with_reducible apply Pick.there | with_reducible apply Sub.base | with_reducible exact Keeps.here _ | with_reducible apply Keeps.skip))⟩, by simp [intOf]; omega⟩)
          · have hmine := hN0 (.inr hsk)
            have hsk2 : (xS.toList == key.toList) = false := by
              cases h : xS.toList == key.toList with
              | false => rfl
              | true => exact absurd (toList_inj (by simpa using h)) hsk
            clear hN0 hN1 hn0
            ((try clear hf); have hf := hO.facts; (try simp only [FX, Nat.zero_add, Nat.reduceAdd, and_true, true_and, List.map_cons, List.map_nil, List.cons_append, List.nil_append] at hf))
            go_upto_region 20 with (((first | with_reducible refine wpList_alloc_own hO ?_ | with_reducible refine wpList_drew_own hO ?_ | with_reducible refine wp_alloc_own hO ?_ | with_reducible refine wp_drew_own hO ?_ | with_reducible refine bodyPost_alloc_own hO ?_ | with_reducible refine bodyPost_drew_own hO ?_ | ((first | with_reducible apply wpList_set_own | with_reducible apply wp_set_own | with_reducible apply bodyPost_set_own); (focus (first | (with_reducible apply Own.set; (focus (with_reducible apply hO)); (repeat (first | with_reducible exact Put.here _ _ _ | with_reducible apply Put.there)); done) | (with_reducible apply Own.setRow; (focus (with_reducible apply hO)); (focus (repeat (first | with_reducible exact Put.here _ _ _ | with_reducible apply Put.there))); first | assumption | (simp; omega) | (simp; assumption)) | ((repeat' (first | with_reducible apply hO | with_reducible apply Own.set)); all_goals (repeat (first | with_reducible exact Put.here _ _ _ | with_reducible apply Put.there)); done))))); clear hO; intro w9 hO; (try dsimp only [List.set] at hO); ((try clear hf); have hf := hO.facts; (try simp only [FX, Nat.zero_add, Nat.reduceAdd, and_true, true_and, List.map_cons, List.map_nil, List.cons_append, List.nil_append] at hf))))
            go_wp2_with (first | (go_at_call 43; (with_reducible apply Does.use hO (HP); (focus (repeat (first | with_reducible exact Takes.nil _ | with_reducible apply Takes.cons | with_reducible exact Pick.here _ _ | with_reducible apply Pick.there))); clear hO; intro x9 w9 hO; dsimp only at hO ⊢; simp only [List.cons_append, List.nil_append] at hO; ((try clear hf); have hf := hO.facts; (try simp only [FX, Nat.zero_add, Nat.reduceAdd, and_true, true_and, List.map_cons, List.map_nil, List.cons_append, List.nil_append] at hf)))) | (go_at_call 49; (with_reducible apply Does.use hO (HD); (focus (repeat (first | with_reducible exact Takes.nil _ | with_reducible apply Takes.cons | with_reducible exact Pick.here _ _ | with_reducible apply Pick.there))); clear hO; intro x9 w9 hO; dsimp only at hO ⊢; simp only [List.cons_append, List.nil_append] at hO; ((try clear hf); have hf := hO.facts; (try simp only [FX, Nat.zero_add, Nat.reduceAdd, and_true, true_and, List.map_cons, List.map_nil, List.cons_append, List.nil_append] at hf)))) | ((first | with_reducible refine wpList_alloc_own hO ?_ | with_reducible refine wpList_drew_own hO ?_ | with_reducible refine wp_alloc_own hO ?_ | with_reducible refine wp_drew_own hO ?_ | with_reducible refine bodyPost_alloc_own hO ?_ | with_reducible refine bodyPost_drew_own hO ?_ | ((first | with_reducible apply wpList_set_own | with_reducible apply wp_set_own | with_reducible apply bodyPost_set_own); (focus (first | (with_reducible apply Own.set; (focus (with_reducible apply hO)); (repeat (first | with_reducible exact Put.here _ _ _ | with_reducible apply Put.there)); done) | (with_reducible apply Own.setRow; (focus (with_reducible apply hO)); (focus (repeat (first | with_reducible exact Put.here _ _ _ | with_reducible apply Put.there))); first | assumption | (simp; omega) | (simp; assumption)) | ((repeat' (first | with_reducible apply hO | with_reducible apply Own.set)); all_goals (repeat (first | with_reducible exact Put.here _ _ _ | with_reducible apply Put.there)); done))))); clear hO; intro w9 hO; (try dsimp only [List.set] at hO); ((try clear hf); have hf := hO.facts; (try simp only [FX, Nat.zero_add, Nat.reduceAdd, and_true, true_and, List.map_cons, List.map_nil, List.cons_append, List.nil_append] at hf))))
            (exact ⟨⟨j + 1, C', by rw [hmine] <;> rfl, by rw [hmine] <;> rfl, by rw [hmine] <;> rfl, by go_num, by omega, HI2, hO.cut (by repeat (first | with_reducible apply Sub.cons | with_reducible exact Pick.here _ _ | with_reducible apply Pick.there | with_reducible apply Sub.base | with_reducible exact Keeps.here _ | with_reducible apply Keeps.skip))⟩, by simp [intOf]; omega⟩)
        · have hmine := hN0 (.inl hn0)
          obtain ⟨N, rfl⟩ : ∃ N', N = N' + 1 := ⟨N - 1, by omega⟩
          rw [show errV (N + 1) = .iface 97 (.int .i64 ((N + 1 : Nat) : Int)) from rfl] at HD
          clear hN0 hN1 hn0
          ((try clear hf); have hf := hO.facts; (try simp only [FX, Nat.zero_add, Nat.reduceAdd, and_true, true_and, List.map_cons, List.map_nil, List.cons_append, List.nil_append] at hf))
          go_upto_region 20 with (((first | with_reducible refine wpList_alloc_own hO ?_ | with_reducible refine wpList_drew_own hO ?_ | with_reducible refine wp_alloc_own hO ?_ | with_reducible refine wp_drew_own hO ?_ | with_reducible refine bodyPost_alloc_own hO ?_ | with_reducible refine bodyPost_drew_own hO ?_ | ((first | with_reducible apply wpList_set_own | with_reducible apply wp_set_own | with_reducible apply bodyPost_set_own); (focus (first | (with_reducible apply Own.set; (focus (with_reducible apply hO)); (repeat (first | with_reducible exact Put.here _ _ _ | with_reducible apply Put.there)); done) | (with_reducible apply Own.setRow; (focus (with_reducible apply hO)); (focus (repeat (first | with_reducible exact Put.here _ _ _ | with_reducible apply Put.there))); first | assumption | (simp; omega) | (simp; assumption)) | ((repeat' (first | with_reducible apply hO | with_reducible apply Own.set)); all_goals (repeat (first | with_reducible exact Put.here _ _ _ | with_reducible apply Put.there)); done))))); clear hO; intro w9 hO; (try dsimp only [List.set] at hO); ((try clear hf); have hf := hO.facts; (try simp only [FX, Nat.zero_add, Nat.reduceAdd, and_true, true_and, List.map_cons, List.map_nil, List.cons_append, List.nil_append] at hf))))
          go_wp2_with (first | (go_at_call 43; (with_reducible apply Does.use hO (HP); (focus (repeat (first | with_reducible exact Takes.nil _ | with_reducible apply Takes.cons | with_reducible exact Pick.here _ _ | with_reducible apply Pick.there))); clear hO; intro x9 w9 hO; dsimp only at hO ⊢; simp only [List.cons_append, List.nil_append] at hO; ((try clear hf); have hf := hO.facts; (try simp only [FX, Nat.zero_add, Nat.reduceAdd, and_true, true_and, List.map_cons, List.map_nil, List.cons_append, List.nil_append] at hf)))) | (go_at_call 49; (with_reducible apply Does.use hO (HD); (focus (repeat (first | with_reducible exact Takes.nil _ | with_reducible apply Takes.cons | with_reducible exact Pick.here _ _ | with_reducible apply Pick.there))); clear hO; intro x9 w9 hO; dsimp only at hO ⊢; simp only [List.cons_append, List.nil_append] at hO; ((try clear hf); have hf := hO.facts; (try simp only [FX, Nat.zero_add, Nat.reduceAdd, and_true, true_and, List.map_cons, List.map_nil, List.cons_append, List.nil_append] at hf)))) | ((first | with_reducible refine wpList_alloc_own hO ?_ | with_reducible refine wpList_drew_own hO ?_ | with_reducible refine wp_alloc_own hO ?_ | with_reducible refine wp_drew_own hO ?_ | with_reducible refine bodyPost_alloc_own hO ?_ | with_reducible refine bodyPost_drew_own hO ?_ | ((first | with_reducible apply wpList_set_own | with_reducible apply wp_set_own | with_reducible apply bodyPost_set_own); (focus (first | (with_reducible apply Own.set; (focus (with_reducible apply hO)); (repeat (first | with_reducible exact Put.here _ _ _ | with_reducible apply Put.there)); done) | (with_reducible apply Own.setRow; (focus (with_reducible apply hO)); (focus (repeat (first | with_reducible exact Put.here _ _ _ | with_reducible apply Put.there))); first | assumption | (simp; omega) | (simp; assumption)) | ((repeat' (first | with_reducible apply hO | with_reducible apply Own.set)); all_goals (repeat (first | with_reducible exact Put.here _ _ _ | with_reducible apply Put.there)); done))))); clear hO; intro w9 hO; (try dsimp only [List.set] at hO); ((try clear hf); have hf := hO.facts; (try simp only [FX, Nat.zero_add, Nat.reduceAdd, and_true, true_and, List.map_cons, List.map_nil, List.cons_append, List.nil_append] at hf))))
          (exact ⟨⟨j + 1, C', by rw [hmine] <;> rfl, by rw [hmine] <;> rfl, by rw [hmine] <;> rfl, by go_num, by omega, HI2, hO.cut (by repeat (first | with_reducible apply Sub.cons | with_reducible exact Pick.here _ _ | with_reducible apply Pick.there | with_reducible apply Sub.base | with_reducible exact Keeps.here _ | with_reducible apply Keeps.skip))⟩, by simp [intOf]; omega⟩)
    · obtain ⟨hU, h12⟩ := HI.out
      have HG3 := fun p => HGT2 q p C hU h12
      have HG4 := fun p => HGT2 q p [] .nil (by simp)
      have HB := fun p => vBack_does q p 0 C [pt] ma mc [] (by simp)
      have HC := fun p => vChanges_does q p 0 [] [pt] (by simp)
      simp only [List.length_nil] at HB HC
      rw [show mineS [] key = (false, false, ⟨#[]⟩) from rfl] at HG4
      clear HGT2
      generalize mineS C key = M at *
      obtain ⟨mi, th, la⟩ := M
      dsimp only at HG3 HG4 hO ⊢
      ((try clear hf); have hf := hO.facts; (try simp only [FX, Nat.zero_add, Nat.reduceAdd, and_true, true_and, List.map_cons, List.map_nil, List.cons_append, List.nil_append] at hf))
      cases mi with
      | false =>
        simp only [Bool.false_eq_true, if_false] at HG3 HG4
        go_wp2_with (first | (go_at_call 47; (with_reducible apply Does.use hO ((HG3 _)); (focus (repeat (first | with_reducible exact Takes.nil _ | with_reducible apply Takes.cons | with_reducible exact Pick.here _ _ | with_reducible apply Pick.there))); clear hO; intro x9 w9 hO; dsimp only at hO ⊢; simp only [List.cons_append, List.nil_append] at hO; ((try clear hf); have hf := hO.facts; (try simp only [FX, Nat.zero_add, Nat.reduceAdd, and_true, true_and, List.map_cons, List.map_nil, List.cons_append, List.nil_append] at hf)))) | (go_at_call 47; (with_reducible apply Does.use hO ((HG4 _)); (focus (repeat (first | with_reducible exact Takes.nil _ | with_reducible apply Takes.cons | with_reducible exact Pick.here _ _ | with_reducible apply Pick.there))); clear hO; intro x9 w9 hO; dsimp only at hO ⊢; simp only [List.cons_append, List.nil_append] at hO; ((try clear hf); have hf := hO.facts; (try simp only [FX, Nat.zero_add, Nat.reduceAdd, and_true, true_and, List.map_cons, List.map_nil, List.cons_append, List.nil_append] at hf)))) | (go_at_call 47; (with_reducible apply Does.use hO ((HGT1 _ _)); (focus (repeat (first | with_reducible exact Takes.nil _ | with_reducible apply Takes.cons | with_reducible exact Pick.here _ _ | with_reducible apply Pick.there))); clear hO; intro x9 w9 hO; dsimp only at hO ⊢; simp only [List.cons_append, List.nil_append] at hO; ((try clear hf); have hf := hO.facts; (try simp only [FX, Nat.zero_add, Nat.reduceAdd, and_true, true_and, List.map_cons, List.map_nil, List.cons_append, List.nil_append] at hf)))) | (go_at_call 50; (with_reducible apply Does.use hO ((HB _)); (focus (repeat (first | with_reducible exact Takes.nil _ | with_reducible apply Takes.cons | with_reducible exact Pick.here _ _ | with_reducible apply Pick.there))); clear hO; intro x9 w9 hO; dsimp only at hO ⊢; simp only [List.cons_append, List.nil_append] at hO; ((try clear hf); have hf := hO.facts; (try simp only [FX, Nat.zero_add, Nat.reduceAdd, and_true, true_and, List.map_cons, List.map_nil, List.cons_append, List.nil_append] at hf)))) | (go_at_call 44; (with_reducible apply Does.use hO ((HC _)); (focus (repeat (first | with_reducible exact Takes.nil _ | with_reducible apply Takes.cons | with_reducible exact Pick.here _ _ | with_reducible apply Pick.there))); clear hO; intro x9 w9 hO; dsimp only at hO ⊢; simp only [List.cons_append, List.nil_append] at hO; ((try clear hf); have hf := hO.facts; (try simp only [FX, Nat.zero_add, Nat.reduceAdd, and_true, true_and, List.map_cons, List.map_nil, List.cons_append, List.nil_append] at hf)); (obtain ⟨ka, kc⟩ := x9; dsimp only at hO ⊢; ((try clear hf); have hf := hO.facts; (try simp only [FX, Nat.zero_add, Nat.reduceAdd, and_true, true_and, List.map_cons, List.map_nil, List.cons_append, List.nil_append] at hf))))) | ((first | with_reducible refine wpList_alloc_own hO ?_ | with_reducible refine wpList_drew_own hO ?_ | with_reducible refine wp_alloc_own hO ?_ | with_reducible refine wp_drew_own hO ?_ | with_reducible refine bodyPost_alloc_own hO ?_ | with_reducible refine bodyPost_drew_own hO ?_ | ((first | with_reducible apply wpList_set_own | with_reducible apply wp_set_own | with_reducible apply bodyPost_set_own); (focus (first | (with_reducible apply Own.set; (focus (with_reducible apply hO)); (repeat (first | with_reducible exact Put.here _ _ _ | with_reducible apply Put.there)); done) | (with_reducible apply Own.setRow; (focus (with_reducible apply hO)); (focus (repeat (first | with_reducible exact Put.here _ _ _ | with_reducible apply Put.there))); first | assumption | (simp; omega) | (simp; assumption)) | ((repeat' (first | with_reducible apply hO | with_reducible apply Own.set)); all_goals (repeat (first | with_reducible exact Put.here _ _ _ | with_reducible apply Put.there)); done))))); clear hO; intro w9 hO; (try dsimp only [List.set] at hO); ((try clear hf); have hf := hO.facts; (try simp only [FX, Nat.zero_add, Nat.reduceAdd, and_true, true_and, List.map_cons, List.map_nil, List.cons_append, List.nil_append] at hf))))
        go_ret
        exact ⟨rfl, hO.toExt⟩
      | true =>
        simp only [if_true] at HG3
        simp only [Bool.false_eq_true, if_false] at HG4
        go_wp2_with (first | (go_at_call 47; (with_reducible apply Does.use hO ((HG3 _)); (focus (repeat (first | with_reducible exact Takes.nil _ | with_reducible apply Takes.cons | with_reducible exact Pick.here _ _ | with_reducible apply Pick.there))); clear hO; intro x9 w9 hO; dsimp only at hO ⊢; simp only [List.cons_append, List.nil_append] at hO; ((try clear hf); have hf := hO.facts; (try simp only [FX, Nat.zero_add, Nat.reduceAdd, and_true, true_and, List.map_cons, List.map_nil, List.cons_append, List.nil_append] at hf)))) | (go_at_call 47; (with_reducible apply Does.use hO ((HG4 _)); (focus (repeat (first | with_reducible exact Takes.nil _ | with_reducible apply Takes.cons | with_reducible exact Pick.here _ _ | with_reducible apply Pick.there))); clear hO; intro x9 w9 hO; dsimp only at hO ⊢; simp only [List.cons_append, List.nil_append] at hO; ((try clear hf); have hf := hO.facts; (try simp only [FX, Nat.zero_add, Nat.reduceAdd, and_true, true_and, List.map_cons, List.map_nil, List.cons_append, List.nil_append] at hf)))) | (go_at_call 47; (with_reducible apply Does.use hO ((HGT1 _ _)); (focus (repeat (first | with_reducible exact Takes.nil _ | with_reducible apply Takes.cons | with_reducible exact Pick.here _ _ | with_reducible apply Pick.there))); clear hO; intro x9 w9 hO; dsimp only at hO ⊢; simp only [List.cons_append, List.nil_append] at hO; ((try clear hf); have hf := hO.facts; (try simp only [FX, Nat.zero_add, Nat.reduceAdd, and_true, true_and, List.map_cons, List.map_nil, List.cons_append, List.nil_append] at hf)))) | (go_at_call 50; (with_reducible apply Does.use hO ((HB _)); (focus (repeat (first | with_reducible exact Takes.nil _ | with_reducible apply Takes.cons | with_reducible exact Pick.here _ _ | with_reducible apply Pick.there))); clear hO; intro x9 w9 hO; dsimp only at hO ⊢; simp only [List.cons_append, List.nil_append] at hO; ((try clear hf); have hf := hO.facts; (try simp only [FX, Nat.zero_add, Nat.reduceAdd, and_true, true_and, List.map_cons, List.map_nil, List.cons_append, List.nil_append] at hf)))) | (go_at_call 44; (with_reducible apply Does.use hO ((HC _)); (focus (repeat (first | with_reducible exact Takes.nil _ | with_reducible apply Takes.cons | with_reducible exact Pick.here _ _ | with_reducible apply Pick.there))); clear hO; intro x9 w9 hO; dsimp only at hO ⊢; simp only [List.cons_append, List.nil_append] at hO; ((try clear hf); have hf := hO.facts; (try simp only [FX, Nat.zero_add, Nat.reduceAdd, and_true, true_and, List.map_cons, List.map_nil, List.cons_append, List.nil_append] at hf)); (obtain ⟨ka, kc⟩ := x9; dsimp only at hO ⊢; ((try clear hf); have hf := hO.facts; (try simp only [FX, Nat.zero_add, Nat.reduceAdd, and_true, true_and, List.map_cons, List.map_nil, List.cons_append, List.nil_append] at hf))))) | ((first | with_reducible refine wpList_alloc_own hO ?_ | with_reducible refine wpList_drew_own hO ?_ | with_reducible refine wp_alloc_own hO ?_ | with_reducible refine wp_drew_own hO ?_ | with_reducible refine bodyPost_alloc_own hO ?_ | with_reducible refine bodyPost_drew_own hO ?_ | ((first | with_reducible apply wpList_set_own | with_reducible apply wp_set_own | with_reducible apply bodyPost_set_own); (focus (first | (with_reducible apply Own.set; (focus (with_reducible apply hO)); (repeat (first | with_reducible exact Put.here _ _ _ | with_reducible apply Put.there)); done) | (with_reducible apply Own.setRow; (focus (with_reducible apply hO)); (focus (repeat (first | with_reducible exact Put.here _ _ _ | with_reducible apply Put.there))); first | assumption | (simp; omega) | (simp; assumption)) | ((repeat' (first | with_reducible apply hO | with_reducible apply Own.set)); all_goals (repeat (first | with_reducible exact Put.here _ _ _ | with_reducible apply Put.there)); done))))); clear hO; intro w9 hO; (try dsimp only [List.set] at hO); ((try clear hf); have hf := hO.facts; (try simp only [FX, Nat.zero_add, Nat.reduceAdd, and_true, true_and, List.map_cons, List.map_nil, List.cons_append, List.nil_append] at hf))))
        go_ret
        exact ⟨rfl, hO.toExt⟩
end Go.Proofs.YtpdnlgopbnkdhaaDoor
