/- Texts Grown, TopV, ScanC, TopScan of this claim, laid together. -/
import Derived.Test.YtpdnlgopbnkdhaaDoorGTopScanProof33
import Derived.Test.YtpdnlgopbnkdhaaDoorGTopScanProof30
import Derived.Test.YtpdnlgopbnkdhaaDoorGTopScanProof25
import Derived.Test.YtpdnlgopbnkdhaaDoorGTopScanProof12
set_option linter.unusedVariables false
set_option linter.unusedSimpArgs false
namespace Go.Proofs.YtpdnlgopbnkdhaaDoor
open Go.RowKit
noncomputable def gS (rows : List Rw) (D : List DV) (i : Nat) : Nat × List (ByteArray × List Vn) := ((dss D).take i).foldl growS (0, newV rows)
theorem gS_step {rows : List Rw} {D : List DV} {i : Nat} (h : i < D.length) : gS rows D (i + 1) = growS (gS rows D i) D[i].2.2 := by
  unfold gS dss
  rw [List.take_succ_eq_append_getElem (by simpa using h), List.foldl_append, List.getElem_map]
  rfl
theorem gS_all {rows : List Rw} {D : List DV} {i : Nat} (h : D.length ≤ i) : gS rows D i = growV rows (dss D) := by
  unfold gS growV
  rw [List.take_of_length_le (by unfold dss; simpa using h)]
theorem gS_len {rows : List Rw} {D : List DV} {i : Nat} (hD : ∀ d ∈ D, d.2.2.length ≤ 14) : (gS rows D i).1 ≤ i ∧ (gS rows D i).2.length ≤ rows.length + i * 14 ∧ cntV (gS rows D i).2 ≤ rows.length + i * 14 := by
  have h1 := grows_len ((dss D).take i) (0, newV rows) (t := 14) fun C hC => by
    obtain ⟨d, hd, rfl⟩ := List.mem_map.1 (List.mem_of_mem_take hC)
    exact hD d hd
  have h2 : ((dss D).take i).length ≤ i := List.length_take_le _ _
  have h3 : ((dss D).take i).length * 14 ≤ i * 14 := Nat.mul_le_mul_right _ h2
  have h4 := cnt_new rows
  have h5 : (newV rows).length = rows.length := by unfold newV; rw [List.length_map]
  unfold gS
  simp only at h1
  omega
set_option maxHeartbeats 2000000 in
set_option maxRecDepth 100000 in
theorem grown_does (ra : Option Addr) (n rc : Nat) (rows : List Rw) (da : Option Addr) (m dc : Nat) (D : List DV) (hrl : rows.length = n) (hn : n ≤ 1000) (hup : RUps rows) (hdl : D.length = m) (hm : m ≤ 100)
    (hs : ∀ d ∈ D, d.2.2.length ≤ 14 ∧ ∀ c ∈ d.2.2, c.key.size ≤ 60 ∧ c.val.size ≤ 100) {φ : World → Prop} (hφ : ∀ w, φ w → LibOk w ∧ ValsAt w ra (rows.flatMap rwC) ∧ DLAt w da D) :
    Does Tryd.prog 51 #[.slice ra n rc, .slice da m dc] [.imm φ] (fun p : Nat => (.pointer (some ⟨p, 0, none⟩), [VerR p (growV rows (dss D)).1 (growV rows (dss D)).2, .imm φ])) := by
  have HN := vnew_does ra n rc rows hrl (by omega) hup.keys
  have HSS := Lib.hid hs
  have HGL := fun i => Lib.hid (gS_len (rows := rows) (i := i) fun d hd => (hs d hd).1)
  clear hs
  intro S W w L0 hO; simp only [List.cons_append, List.nil_append] at hO
  replace hO := hO.again.imp (ψ := fun w => ValsAt w ra (rows.flatMap rwC)) fun w h => (hφ w h).2.1
  ((try clear hf); have hf := hO.facts; (try simp only [FX, Nat.zero_add, Nat.reduceAdd, and_true, true_and, List.map_cons, List.map_nil, List.cons_append, List.nil_append] at hf))
  go_enter Tryd.func51, Tryd.ntmps51
  go_wp2_with (first | (go_at_call 26; (with_reducible apply Does.use hO (HN); (focus (repeat (first | with_reducible exact Takes.nil _ | with_reducible apply Takes.cons | with_reducible exact Pick.here _ _ | with_reducible apply Pick.there))); clear hO; intro x9 w9 hO; dsimp only at hO ⊢; simp only [List.cons_append, List.nil_append] at hO; ((try clear hf); have hf := hO.facts; (try simp only [FX, Nat.zero_add, Nat.reduceAdd, and_true, true_and, List.map_cons, List.map_nil, List.cons_append, List.nil_append] at hf)); rename Nat => p)) | ((first | with_reducible refine wpList_alloc_own hO ?_ | with_reducible refine wpList_drew_own hO ?_ | with_reducible refine wp_alloc_own hO ?_ | with_reducible refine wp_drew_own hO ?_ | with_reducible refine bodyPost_alloc_own hO ?_ | with_reducible refine bodyPost_drew_own hO ?_ | ((first | with_reducible apply wpList_set_own | with_reducible apply wp_set_own | with_reducible apply bodyPost_set_own); (focus (first | (with_reducible apply Own.set; (focus (with_reducible apply hO)); (repeat (first | with_reducible exact Put.here _ _ _ | with_reducible apply Put.there)); done) | (with_reducible apply Own.setRow; (focus (with_reducible apply hO)); (focus (repeat (first | with_reducible exact Put.here _ _ _ | with_reducible apply Put.there))); first | assumption | (simp; omega) | (simp; assumption)) | ((repeat' (first | with_reducible apply hO | with_reducible apply Own.set)); all_goals (repeat (first | with_reducible exact Put.here _ _ _ | with_reducible apply Put.there)); done))))); clear hO; intro w9 hO; (try dsimp only [List.set] at hO); ((try clear hf); have hf := hO.facts; (try simp only [FX, Nat.zero_add, Nat.reduceAdd, and_true, true_and, List.map_cons, List.map_nil, List.cons_append, List.nil_append] at hf))))
  rename Nat => p
  have hO9 := hO
  clear hO hf HN
  go_loopw [6] (fun v wr => ∃ i : Nat, v = .int .i64 i ∧ i ≤ m ∧ Own S W wr ([VerR p (gS rows D i).1 (gS rows D i).2, .imm φ] ++ L0)) (fun v _ => m - (intOf v).toNat)
  case atStart => exact ⟨0, rfl, by omega, by (try simp only [List.cons_append, List.nil_append]); exact (show Own S W _ (VerR p 0 (newV rows) :: .imm φ :: L0) from hO9.cut (by repeat (first | with_reducible apply Sub.cons | with_reducible exact Pick.here _ _ | with_reducible apply Pick.there | with_reducible apply Sub.base | with_reducible exact Keeps.here _ | with_reducible apply Keeps.skip)))⟩
  case round =>
    clear hO9
    obtain ⟨i, rfl, hi, hO⟩ := hrel
    rename World => w1
    simp only [List.cons_append, List.nil_append] at hO
    ((try clear hf); have hf := hO.facts; (try simp only [FX, Nat.zero_add, Nat.reduceAdd, and_true, true_and, List.map_cons, List.map_nil, List.cons_append, List.nil_append] at hf))
    by_cases hlt : i < m
    · have hi2 : i < D.length := by omega
      have hcd : (D.map dv)[i]? = some (dv D[i]) := by rw [List.getElem?_map, List.getElem?_eq_getElem hi2]; rfl
      obtain ⟨b, off, rfl⟩ := ValsAt.some (hφ _ (Own.immOf (φ := φ) hO (by repeat (first | with_reducible exact Pick.here _ _ | with_reducible apply Pick.there)))).2.2.1 hcd
      have hcell := fun w (h : φ w) => show w.cell? ⟨b, off + i, none⟩ = some (dv D[i]) from ValsAt.get (hφ w h).2.2.1 hcd
      have hch := fun w (h : φ w) => (hφ w h).2.2.2 _ (List.getElem_mem hi2)
      obtain ⟨hx14, hxc⟩ := HSS.out _ (List.getElem_mem hi2)
      have hst := gS_step (rows := rows) hi2
      obtain ⟨g1, g2, g3⟩ := (HGL i).out
      clear hcd
      generalize D[i] = x at *
      obtain ⟨xa, xc, xl⟩ := x
      dsimp only [dv] at hcell hch hx14 hxc hst
      have HST := Lib.hid hst
      clear hst
      have hG : ∀ e ∈ (gS rows D i).2, e.2.length ≤ 100000 := fun e he => by have := cnt_mem he; omega
      have HC := vcommit_does p (gS rows D i).1 (gS rows D i).2 xa xl.length xc xl rfl (by omega) (fun c hc => ⟨by have := (hxc c hc).1; omega, by have := (hxc c hc).2; omega⟩) (by omega) hG (φ := φ) fun w h => ⟨(hφ w h).1, hch w h⟩
      clear hG hxc g1 g2 g3
      have c0 := hcell _ (Own.immOf (φ := φ) hO (by repeat (first | with_reducible exact Pick.here _ _ | with_reducible apply Pick.there)))
      go_wp2_with (first | (go_at_call 27; (with_reducible apply Does.use hO (HC); (focus (repeat (first | with_reducible exact Takes.nil _ | with_reducible apply Takes.cons | with_reducible exact Pick.here _ _ | with_reducible apply Pick.there))); clear hO; intro x9 w9 hO; dsimp only at hO ⊢; simp only [List.cons_append, List.nil_append] at hO; ((try clear hf); have hf := hO.facts; (try simp only [FX, Nat.zero_add, Nat.reduceAdd, and_true, true_and, List.map_cons, List.map_nil, List.cons_append, List.nil_append] at hf)))) | ((first | with_reducible refine wpList_alloc_own hO ?_ | with_reducible refine wpList_drew_own hO ?_ | with_reducible refine wp_alloc_own hO ?_ | with_reducible refine wp_drew_own hO ?_ | with_reducible refine bodyPost_alloc_own hO ?_ | with_reducible refine bodyPost_drew_own hO ?_ | ((first | with_reducible apply wpList_set_own | with_reducible apply wp_set_own | with_reducible apply bodyPost_set_own); (focus (first | (with_reducible apply Own.set; (focus (with_reducible apply hO)); (repeat (first | with_reducible exact Put.here _ _ _ | with_reducible apply Put.there)); done) | (with_reducible apply Own.setRow; (focus (with_reducible apply hO)); (focus (repeat (first | with_reducible exact Put.here _ _ _ | with_reducible apply Put.there))); first | assumption | (simp; omega) | (simp; assumption)) | ((repeat' (first | with_reducible apply hO | with_reducible apply Own.set)); all_goals (repeat (first | with_reducible exact Put.here _ _ _ | with_reducible apply Put.there)); done))))); clear hO; intro w9 hO; (try dsimp only [List.set] at hO); ((try clear hf); have hf := hO.facts; (try simp only [FX, Nat.zero_add, Nat.reduceAdd, and_true, true_and, List.map_cons, List.map_nil, List.cons_append, List.nil_append] at hf))))
      refine ⟨⟨i + 1, by go_num, by omega, ?_⟩, by simp [intOf]; omega⟩
      rw [HST.out]
      (try simp only [List.cons_append, List.nil_append])
      exact (show Own S W _ (VerR p (comN (gS rows D i).1 xl) (commitV (gS rows D i).1 xl (gS rows D i).2) :: .imm φ :: L0) from hO.cut (by repeat (first | with_reducible apply Sub.cons | with_reducible exact Pick.here _ _ | with_reducible apply Pick.there | with_reducible apply Sub.base | with_reducible exact Keeps.here _ | with_reducible apply Keeps.skip)))
    · rw [gS_all (by omega)] at hO
      go_wp2_with (first | ((first | with_reducible refine wpList_alloc_own hO ?_ | with_reducible refine wpList_drew_own hO ?_ | with_reducible refine wp_alloc_own hO ?_ | with_reducible refine wp_drew_own hO ?_ | with_reducible refine bodyPost_alloc_own hO ?_ | with_reducible refine bodyPost_drew_own hO ?_ | ((first | with_reducible apply wpList_set_own | with_reducible apply wp_set_own | with_reducible apply bodyPost_set_own); (focus (first | (with_reducible apply Own.set; (focus (with_reducible apply hO)); (repeat (first | with_reducible exact Put.here _ _ _ | with_reducible apply Put.there)); done) | (with_reducible apply Own.setRow; (focus (with_reducible apply hO)); (focus (repeat (first | with_reducible exact Put.here _ _ _ | with_reducible apply Put.there))); first | assumption | (simp; omega) | (simp; assumption)) | ((repeat' (first | with_reducible apply hO | with_reducible apply Own.set)); all_goals (repeat (first | with_reducible exact Put.here _ _ _ | with_reducible apply Put.there)); done))))); clear hO; intro w9 hO; (try dsimp only [List.set] at hO); ((try clear hf); have hf := hO.facts; (try simp only [FX, Nat.zero_add, Nat.reduceAdd, and_true, true_and, List.map_cons, List.map_nil, List.cons_append, List.nil_append] at hf))))
      go_ret
      refine ⟨p, rfl, ?_⟩
      (try simp only [List.cons_append, List.nil_append])
      exact hO.cut (by repeat (first | with_reducible apply Sub.cons | with_reducible exact Pick.here _ _ | with_reducible apply Pick.there | with_reducible apply Sub.base | with_reducible exact Keeps.here _ | with_reducible apply Keeps.skip))
end Go.Proofs.YtpdnlgopbnkdhaaDoor
namespace Go.Proofs.YtpdnlgopbnkdhaaDoor
open Go.RowKit
theorem and1023 (a : Int) : 0 ≤ bits .and .i64 a 1023 ∧ bits .and .i64 a 1023 ≤ 1023 := by
  have h : (BitVec.ofInt 64 a &&& BitVec.ofInt 64 1023).toNat ≤ 1023 := by
    rw [BitVec.toNat_and]; exact Nat.le_trans Nat.and_le_right (by decide)
  show 0 ≤ IntKind.i64.wrap ((BitVec.ofInt 64 a &&& BitVec.ofInt 64 1023).toNat : Int) ∧ IntKind.i64.wrap ((BitVec.ofInt 64 a &&& BitVec.ofInt 64 1023).toNat : Int) ≤ 1023
  generalize (BitVec.ofInt 64 a &&& BitVec.ofInt 64 1023).toNat = n at *
  rw [IntKind.wrap_i64]; omega
theorem Own.varDv {S : Nat → Prop} {W w : World} {l : List Rs} {b : Nat} {v : Value} {t : TypeId} (h : Own S W w (Var b [v] t :: l)) : Own S W w (.imm (fun w => ValsAt w (some ⟨b, 0, none⟩) [v]) :: l) :=
  h.toImm (r := Var b [v] t) fun w hf => by
    refine .inr ⟨b, 0, rfl, fun i hi => ?_⟩
    exact Var.at (t := t) hf i _ (List.getElem?_eq_getElem hi)
/-- One deed of one change, laid out by the code itself. -/
theorem Own.closedG {S : Nat → Prop} {W w : World} {l l' : List Rs} {b d : Nat} {c : Ch} {cs : List Value} {t t' : TypeId} {ρ : World → Prop} (h : Own S W w l) (hc : c.cells = cs) (ht : Takes l [.imm ρ, Var b cs t, Var d [.slice (some ⟨b, 0, none⟩) 1 1] t'] l') :
    Own S W w (.imm (fun w => ρ w ∧ DLAt w (some ⟨d, 0, none⟩) [(some ⟨b, 0, none⟩, 1, [c])]) :: .imm ρ :: l') := by
  subst hc
  have h1 := h.take ht
  simp only [List.cons_append, List.nil_append] at h1
  have h2 := (h1.pick (.there _ (.here _ _))).varCh1
  have h3 := (h2.pick (.there _ (.there _ (.here _ _)))).varDv
  -- slice, change, ρ
  have h4 := h3.and
  have h5 := (h4.pick (.there _ (.here _ _))).again
  have h6 := (h5.pick (.there _ (.there _ (.here _ _))))
  have h7 := h6.and
  refine h7.imp fun w ⟨⟨h8, h9⟩, h10⟩ => ⟨h10, ?_, fun x hx => ?_⟩
  · exact h8
  · rw [List.mem_singleton.1 hx]; exact h9
def cTx : Ch := ⟨kTA, ⟨#[120]⟩, false⟩
theorem cTx_ok : chN cTx = 0 := by
  unfold chN
  rw [if_pos (show KeyOk cTx.key from kTA_key), if_neg (fun h => absurd h.1 (by decide)), if_neg (by decide)]
theorem dTx : deedN [cTx] = 0 := by
  unfold deedN
  rw [deed_first cTx_ok, deedFrom]
theorem growTx (rows : List Rw) : growV rows [[cTx]] = (1, putV 1 (newV rows) cTx) := by
  unfold growV
  show (comN 0 [cTx], commitV 0 [cTx] (newV rows)) = _
  unfold comN commitV
  rw [if_pos dTx, if_pos dTx]
  rfl
theorem cTx_light (b : Nat) : ∀ d ∈ ([(some ⟨b, 0, none⟩, 1, [cTx])] : List DV), d.2.2.length ≤ 14 ∧ ∀ c ∈ d.2.2, c.key.size ≤ 60 ∧ c.val.size ≤ 100 := fun d hd => by
  rw [List.mem_singleton.1 hd]
  exact ⟨by show ([cTx] : List Ch).length ≤ 14; simp, fun c hc => by rw [List.mem_singleton.1 hc]; decide⟩
/-- What the versions of light rows and deeds are. -/
structure GrV (rows : List Rw) (D : List DV) (nn : Nat) (V : List (ByteArray × List Vn)) : Prop where
  eq : growV rows (dss D) = (nn, V)
  inv : VInv nn V
  now : nn ≤ 12
  len : V.length ≤ 218
  cnt : cntV V ≤ 218
theorem GrV.of {rows : List Rw} {D : List DV} (hu : RUps rows) (h50 : rows.length ≤ 50) (hD : D.length ≤ 12) (h14 : ∀ d ∈ D, d.2.2.length ≤ 14) : ∃ nn V, GrV rows D nn V := by
  have h1 := gS_len (rows := rows) (i := 12) h14
  rw [gS_all hD] at h1
  refine ⟨(growV rows (dss D)).1, (growV rows (dss D)).2, rfl, ?_, h1.1, Nat.le_trans h1.2.1 (by omega), Nat.le_trans h1.2.2 (by omega)⟩
  exact grows_inv (dss D) (s := (0, newV rows)) (newV_inv hu)
theorem rowVals {w : World} {e : TypeId} {size n c : Nat} {a : Option Addr} {xs : List Value} (h : (Row2 e size a n c xs).facts w) : ValsAt w a xs := h.1
set_option maxHeartbeats 1000000 in
set_option maxRecDepth 100000 in
theorem vnowR (p nn : Nat) (V : List (ByteArray × List Vn)) : Reads Tryd.prog 37 #[.pointer (some ⟨p, 0, none⟩)] [VerR p nn V] (.int .i64 nn) := by
  intro w L0 hO; simp only [List.map_cons, List.map_nil, List.cons_append, List.nil_append] at hO; obtain ⟨⟨b, clock, L⟩, hO⟩ := hO.frzEx; replace hO := hO.frzMany; dsimp only at hO; simp only [List.map_cons, List.map_nil, List.cons_append, List.nil_append] at hO; ((try clear hf); have hf := hO.facts; (try simp only [FX, Nat.zero_add, Nat.reduceAdd, and_true, true_and, List.map_cons, List.map_nil, List.cons_append, List.nil_append] at hf))
  go_enter Tryd.func37, Tryd.ntmps37
  go_wp2_with (first | ((first | with_reducible refine wpList_alloc_own hO ?_ | with_reducible refine wpList_drew_own hO ?_ | with_reducible refine wp_alloc_own hO ?_ | with_reducible refine wp_drew_own hO ?_ | with_reducible refine bodyPost_alloc_own hO ?_ | with_reducible refine bodyPost_drew_own hO ?_ | ((first | with_reducible apply wpList_set_own | with_reducible apply wp_set_own | with_reducible apply bodyPost_set_own); (focus (first | (with_reducible apply Own.set; (focus (with_reducible apply hO)); (repeat (first | with_reducible exact Put.here _ _ _ | with_reducible apply Put.there)); done) | (with_reducible apply Own.setRow; (focus (with_reducible apply hO)); (focus (repeat (first | with_reducible exact Put.here _ _ _ | with_reducible apply Put.there))); first | assumption | (simp; omega) | (simp; assumption)) | ((repeat' (first | with_reducible apply hO | with_reducible apply Own.set)); all_goals (repeat (first | with_reducible exact Put.here _ _ _ | with_reducible apply Put.there)); done))))); clear hO; intro w9 hO; (try dsimp only [List.set] at hO); ((try clear hf); have hf := hO.facts; (try simp only [FX, Nat.zero_add, Nat.reduceAdd, and_true, true_and, List.map_cons, List.map_nil, List.cons_append, List.nil_append] at hf))))
  go_ret
  exact ⟨rfl, hO.toExt⟩
end Go.Proofs.YtpdnlgopbnkdhaaDoor
namespace Go.Proofs.YtpdnlgopbnkdhaaDoor
open Go.RowKit
/-- A map of the keys that were seen. -/
structure SeenOk (E : List En) (K : List ByteArray) : Prop where
  val : ∀ x ∈ E, x.val = .bool true
  keys : ∀ k, (∃ x ∈ E, x.key = k) ↔ k ∈ K
def SeenR (b : Nat) (K : List ByteArray) : Rs := .ex fun x : List En × Nat => .many [MapR b x.1 x.2, .pure (SeenOk x.1 K)]
theorem SeenOk.nil : SeenOk [] [] := ⟨fun _ h => (List.not_mem_nil h).elim, fun k => ⟨fun ⟨_, h, _⟩ => (List.not_mem_nil h).elim, fun h => (List.not_mem_nil h).elim⟩⟩
theorem SeenOk.out {E : List En} {K : List ByteArray} {k : ByteArray} (h : SeenOk E K) (hk : k ∉ K) : getE k E = none := getE_none fun x hx he => hk ((h.keys k).1 ⟨x, hx, he⟩)
theorem getE_some {k : ByteArray} {v : Value} : ∀ {E : List En}, (∀ x ∈ E, x.val = v) → (∃ x ∈ E, x.key = k) → getE k E = some v
  | [], _, ⟨_, h, _⟩ => (List.not_mem_nil h).elim
  | x :: l, hv, ⟨y, hy, he⟩ => by
    unfold getE
    rw [lookE]
    by_cases h : x.key = k
    · rw [if_pos h, ← hv x (List.mem_cons_self ..)]; rfl
    · rw [if_neg h]
      rcases List.mem_cons.1 hy with rfl | hy
      · exact absurd he h
      · have := getE_some (k := k) (fun z hz => hv z (List.mem_cons_of_mem _ hz)) ⟨y, hy, he⟩
        unfold getE at this
        cases hl : lookE k l with
        | none => rw [hl] at this; cases this
        | some p => rw [hl] at this; exact this
theorem SeenOk.in {E : List En} {K : List ByteArray} {k : ByteArray} (h : SeenOk E K) (hk : k ∈ K) : getE k E = some (.bool true) := getE_some h.val ((h.keys k).2 hk)
theorem SeenOk.add {E : List En} {K : List ByteArray} {k : ByteArray} {c : Nat} (h : SeenOk E K) : SeenOk (E ++ [⟨k, .bool true, c⟩]) (k :: K) where
  val := fun x hx => by
    rcases List.mem_append.1 hx with hx | hx
    · exact h.val x hx
    · rw [List.mem_singleton.1 hx]
  keys := fun j => by
    constructor
    · rintro ⟨x, hx, he⟩
      rcases List.mem_append.1 hx with hx | hx
      · exact List.mem_cons_of_mem _ ((h.keys j).1 ⟨x, hx, he⟩)
      · rw [List.mem_singleton.1 hx] at he; exact he ▸ List.mem_cons_self ..
    · intro hj
      rcases List.mem_cons.1 hj with rfl | hj
      · exact ⟨_, List.mem_append_right _ (List.mem_singleton_self _), rfl⟩
      · obtain ⟨x, hx, he⟩ := (h.keys j).2 hj
        exact ⟨x, List.mem_append_left _ hx, he⟩
theorem setE_keys {k : ByteArray} {v : Value} : ∀ (E : List En), (setE k v E).map En.key = E.map En.key
  | [] => rfl
  | x :: l => by
    rw [setE]
    by_cases h : x.key = k
    · rw [if_pos h, List.map_cons, List.map_cons, h]
    · rw [if_neg h, List.map_cons, List.map_cons, setE_keys l]
theorem setE_vals {k : ByteArray} {v : Value} : ∀ {E : List En}, (∀ x ∈ E, x.val = v) → ∀ x ∈ setE k v E, x.val = v
  | [], _ => fun _ h => (List.not_mem_nil h).elim
  | x :: l, hv => by
    rw [setE]
    by_cases h : x.key = k
    · rw [if_pos h]
      intro y hy
      rcases List.mem_cons.1 hy with rfl | hy
      · rfl
      · exact hv y (List.mem_cons_of_mem _ hy)
    · rw [if_neg h]
      intro y hy
      rcases List.mem_cons.1 hy with rfl | hy
      · exact hv _ (List.mem_cons_self ..)
      · exact setE_vals (fun z hz => hv z (List.mem_cons_of_mem _ hz)) y hy
theorem SeenOk.set {E : List En} {K : List ByteArray} {k : ByteArray} (h : SeenOk E K) (hk : k ∈ K) : SeenOk (setE k (.bool true) E) (k :: K) where
  val := setE_vals h.val
  keys := fun j => by
    have e : (∃ x ∈ setE k (.bool true) E, x.key = j) ↔ ∃ x ∈ E, x.key = j := by
      have h1 : j ∈ (setE k (.bool true) E).map En.key ↔ j ∈ E.map En.key := by rw [setE_keys]
      rw [List.mem_map, List.mem_map] at h1
      exact h1
    rw [e, h.keys j, List.mem_cons]
    exact ⟨.inr, fun h => h.elim (fun h => h ▸ hk) id⟩
/-- An operation under a guard that says yes is as one without. -/
theorem wpList_wantedG {P : Program} {ops : Array Oper} {Q : Exit → Act → World → Prop} {a : Act} {w : World} {rest : List Oper} {o : Oper} (hw : Region.wanted o (yielded ops a.tmps) = true)
    (h : wpList P ops Q ({ o with guard := none } :: rest) a w) : wpList P ops Q (o :: rest) a w := by
  simp only [wpList] at h ⊢
  rw [if_pos hw]
  rw [if_pos (show Region.wanted { o with guard := none } (yielded ops a.tmps) = true from rfl)] at h
  cases o
  exact h
open Classical in
noncomputable def outB (k : ByteArray) (K : List ByteArray) : Bool := decide (k ∉ K)
theorem outB_in {k : ByteArray} {K : List ByteArray} (h : k ∈ K) : outB k K = false := by unfold outB; simp [h]
theorem outB_out {k : ByteArray} {K : List ByteArray} (h : k ∉ K) : outB k K = true := by unfold outB; simp [h]
/-- How many are counted then. -/
def cntA (many : Nat) (c : Bool) : Nat := if c then many + 1 else many
theorem Tryd.zeroB (w : World) : (zeroValue 4).run Tryd.prog w = .ok (.bool false) w := by kernel_rfl
set_option maxHeartbeats 2000000 in
set_option maxRecDepth 100000 in
theorem countK_does (pv pk ps psp pm p b nn : Nat) (kk : Int) (V : List (ByteArray × List Vn)) (lo hi key : ByteArray) (K : List ByteArray) (many : Nat) (hm : many ≤ 1000000) (hV : ∀ e ∈ V, e.2.length ≤ 1000000) (c : Bool) (hc : c = ((readV V key kk).2 && hasB lo hi key && outB key K)) :
    Does Tryd.prog 55 #[.string key, .pointer (some ⟨pv, 0, none⟩), .pointer (some ⟨pk, 0, none⟩), .pointer (some ⟨ps, 0, none⟩), .pointer (some ⟨psp, 0, none⟩), .pointer (some ⟨pm, 0, none⟩)]
      [Var pv [.pointer (some ⟨p, 0, none⟩)] 53, Var pk [.int .i64 kk] 3, Var ps [.map (some b)] 92, Var psp [.string lo, .string hi] 67, VerR p nn V, SeenR b K, Var pm [.int .i64 many] 3]
      (fun _ : Unit => (.tuple #[], [SeenR b (key :: K), Var pv [.pointer (some ⟨p, 0, none⟩)] 53, Var pk [.int .i64 kk] 3, Var ps [.map (some b)] 92, Var psp [.string lo, .string hi] 67, VerR p nn V, Var pm [.int .i64 (cntA many c : Nat)] 3])) := by
  have HR := vread_reads p nn V key kk hV
  have HH := fun w => hasB_any lo hi key w
  generalize readV V key kk = y at *
  obtain ⟨yv, yb⟩ := y
  generalize hasB lo hi key = hb at *
  dsimp only at HR hc
  intro S W w L0 hO; simp only [List.cons_append, List.nil_append] at hO
  obtain ⟨⟨E, clock⟩, hO⟩ := (hO.pick (r := SeenR b K) (by repeat (first | with_reducible exact Pick.here _ _ | with_reducible apply Pick.there))).ofEx
  replace hO := hO.unpack
  dsimp only at hO
  simp only [List.cons_append, List.nil_append] at hO
  have hS : SeenOk E K := hO.factOf (r := .pure (SeenOk E K)) (by repeat (first | with_reducible exact Pick.here _ _ | with_reducible apply Pick.there))
  ((try clear hf); have hf := hO.facts; (try simp only [FX, Nat.zero_add, Nat.reduceAdd, and_true, true_and, List.map_cons, List.map_nil, List.cons_append, List.nil_append] at hf))
  by_cases hk : key ∈ K
  · have HIN : (getE key E).isSome = true := by rw [hS.in hk]; rfl
    have HGET := hS.in hk
    have hc2 : c = false := by rw [hc, outB_in hk, Bool.and_false]
    subst hc2
    clear hc
    have hS2 := Lib.hid (hS.set hk)
    clear hS hk
    cases yb with
    | false =>
      go_enter Tryd.func55, Tryd.ntmps55
      go_wp2_with (first | (go_at_call 32; (with_reducible apply Reads.use hO (HR); (focus (repeat (first | with_reducible exact Takes.nil _ | with_reducible apply Takes.cons | with_reducible exact Pick.here _ _ | with_reducible apply Pick.there))); clear hO; intro w9 hx9 hO; clear hx9; dsimp only; ((try clear hf); have hf := hO.facts; (try simp only [FX, Nat.zero_add, Nat.reduceAdd, and_true, true_and, List.map_cons, List.map_nil, List.cons_append, List.nil_append] at hf)))) | (at_lookup; (refine wpList_wantedG rfl ?_; dsimp only; refine wpList_lookE hO (by repeat (first | with_reducible exact Pick.here _ _ | with_reducible apply Pick.there)) rfl _ _ rfl Tryd.underlying92 Tryd.underlying9 _ (Tryd.zeroB _) rfl rfl ?_; rw [HGET]; dsimp only [Option.getD])) | (go_at_call 54; (with_reducible apply Calls.mono (HH _); rintro e8 w8 ⟨rfl, hx8⟩; replace hO := hO.ext hx8; clear hx8; dsimp only; ((try clear hf); have hf := hO.facts; (try simp only [FX, Nat.zero_add, Nat.reduceAdd, and_true, true_and, List.map_cons, List.map_nil, List.cons_append, List.nil_append] at hf)))) | (with_reducible show wpList _ _ _ (Oper.mk _ (.mapUpdate _ _ _ _) _ _ _ _ :: _) _ _; (refine wpList_setE hO (by repeat (first | with_reducible exact Pick.here _ _ | with_reducible apply Pick.there)) rfl _ _ _ rfl Tryd.underlying92 Tryd.underlying9 rfl rfl (.bool true) rfl HIN ?_; clear hO; intro w9 hO; ((try clear hf); have hf := hO.facts; (try simp only [FX, Nat.zero_add, Nat.reduceAdd, and_true, true_and, List.map_cons, List.map_nil, List.cons_append, List.nil_append] at hf)))) | ((first | with_reducible refine wpList_alloc_own hO ?_ | with_reducible refine wpList_drew_own hO ?_ | with_reducible refine wp_alloc_own hO ?_ | with_reducible refine wp_drew_own hO ?_ | with_reducible refine bodyPost_alloc_own hO ?_ | with_reducible refine bodyPost_drew_own hO ?_ | ((first | with_reducible apply wpList_set_own | with_reducible apply wp_set_own | with_reducible apply bodyPost_set_own); (focus (first | (with_reducible apply Own.set; (focus (with_reducible apply hO)); (repeat (first | with_reducible exact Put.here _ _ _ | with_reducible apply Put.there)); done) | (with_reducible apply Own.setRow; (focus (with_reducible apply hO)); (focus (repeat (first | with_reducible exact Put.here _ _ _ | with_reducible apply Put.there))); first | assumption | (simp; omega) | (simp; assumption)) | ((repeat' (first | with_reducible apply hO | with_reducible apply Own.set)); all_goals (repeat (first | with_reducible exact Put.here _ _ _ | with_reducible apply Put.there)); done))))); clear hO; intro w9 hO; (try dsimp only [List.set] at hO); ((try clear hf); have hf := hO.facts; (try simp only [FX, Nat.zero_add, Nat.reduceAdd, and_true, true_and, List.map_cons, List.map_nil, List.cons_append, List.nil_append] at hf))))
      go_end0
      refine ⟨(), rfl, ?_⟩
      rw [show ((cntA many (false) : Nat) : Int) = (many : Int) from by unfold cntA; simp]
      have hO := hO.toPure (p := SeenOk (setE key (.bool true) E) (key :: K)) hS2.out
      (try simp only [List.cons_append, List.nil_append])
      refine Own.toEx ((setE key (.bool true) E), clock) (Own.pack ?_)
      dsimp only
      (try simp only [List.cons_append, List.nil_append])
      exact hO.cut (by repeat (first | with_reducible apply Sub.cons | with_reducible exact Pick.here _ _ | with_reducible apply Pick.there | with_reducible apply Sub.base | with_reducible exact Keeps.here _ | with_reducible apply Keeps.skip))
    | true =>
      go_enter Tryd.func55, Tryd.ntmps55
      go_wp2_with (first | (go_at_call 32; (with_reducible apply Reads.use hO (HR); (focus (repeat (first | with_reducible exact Takes.nil _ | with_reducible apply Takes.cons | with_reducible exact Pick.here _ _ | with_reducible apply Pick.there))); clear hO; intro w9 hx9 hO; clear hx9; dsimp only; ((try clear hf); have hf := hO.facts; (try simp only [FX, Nat.zero_add, Nat.reduceAdd, and_true, true_and, List.map_cons, List.map_nil, List.cons_append, List.nil_append] at hf)))) | (at_lookup; (refine wpList_wantedG rfl ?_; dsimp only; refine wpList_lookE hO (by repeat (first | with_reducible exact Pick.here _ _ | with_reducible apply Pick.there)) rfl _ _ rfl Tryd.underlying92 Tryd.underlying9 _ (Tryd.zeroB _) rfl rfl ?_; rw [HGET]; dsimp only [Option.getD])) | (go_at_call 54; (with_reducible apply Calls.mono (HH _); rintro e8 w8 ⟨rfl, hx8⟩; replace hO := hO.ext hx8; clear hx8; dsimp only; ((try clear hf); have hf := hO.facts; (try simp only [FX, Nat.zero_add, Nat.reduceAdd, and_true, true_and, List.map_cons, List.map_nil, List.cons_append, List.nil_append] at hf)))) | (with_reducible show wpList _ _ _ (Oper.mk _ (.mapUpdate _ _ _ _) _ _ _ _ :: _) _ _; (refine wpList_setE hO (by repeat (first | with_reducible exact Pick.here _ _ | with_reducible apply Pick.there)) rfl _ _ _ rfl Tryd.underlying92 Tryd.underlying9 rfl rfl (.bool true) rfl HIN ?_; clear hO; intro w9 hO; ((try clear hf); have hf := hO.facts; (try simp only [FX, Nat.zero_add, Nat.reduceAdd, and_true, true_and, List.map_cons, List.map_nil, List.cons_append, List.nil_append] at hf)))) | ((first | with_reducible refine wpList_alloc_own hO ?_ | with_reducible refine wpList_drew_own hO ?_ | with_reducible refine wp_alloc_own hO ?_ | with_reducible refine wp_drew_own hO ?_ | with_reducible refine bodyPost_alloc_own hO ?_ | with_reducible refine bodyPost_drew_own hO ?_ | ((first | with_reducible apply wpList_set_own | with_reducible apply wp_set_own | with_reducible apply bodyPost_set_own); (focus (first | (with_reducible apply Own.set; (focus (with_reducible apply hO)); (repeat (first | with_reducible exact Put.here _ _ _ | with_reducible apply Put.there)); done) | (with_reducible apply Own.setRow; (focus (with_reducible apply hO)); (focus (repeat (first | with_reducible exact Put.here _ _ _ | with_reducible apply Put.there))); first | assumption | (simp; omega) | (simp; assumption)) | ((repeat' (first | with_reducible apply hO | with_reducible apply Own.set)); all_goals (repeat (first | with_reducible exact Put.here _ _ _ | with_reducible apply Put.there)); done))))); clear hO; intro w9 hO; (try dsimp only [List.set] at hO); ((try clear hf); have hf := hO.facts; (try simp only [FX, Nat.zero_add, Nat.reduceAdd, and_true, true_and, List.map_cons, List.map_nil, List.cons_append, List.nil_append] at hf))))
      go_end0
      refine ⟨(), rfl, ?_⟩
      rw [show ((cntA many (false) : Nat) : Int) = (many : Int) from by unfold cntA; simp]
      have hO := hO.toPure (p := SeenOk (setE key (.bool true) E) (key :: K)) hS2.out
      (try simp only [List.cons_append, List.nil_append])
      refine Own.toEx ((setE key (.bool true) E), clock) (Own.pack ?_)
      dsimp only
      (try simp only [List.cons_append, List.nil_append])
      exact hO.cut (by repeat (first | with_reducible apply Sub.cons | with_reducible exact Pick.here _ _ | with_reducible apply Pick.there | with_reducible apply Sub.base | with_reducible exact Keeps.here _ | with_reducible apply Keeps.skip))
  · have HOUT := hS.out hk
    have HGET := HOUT
    have hc2 : c = (yb && hb) := by rw [hc, outB_out hk, Bool.and_true]
    subst hc2
    clear hc
    have hS2 := Lib.hid (hS.add (k := key) (c := clock))
    clear hS hk
    cases yb with
    | false =>
      go_enter Tryd.func55, Tryd.ntmps55
      go_wp2_with (first | (go_at_call 32; (with_reducible apply Reads.use hO (HR); (focus (repeat (first | with_reducible exact Takes.nil _ | with_reducible apply Takes.cons | with_reducible exact Pick.here _ _ | with_reducible apply Pick.there))); clear hO; intro w9 hx9 hO; clear hx9; dsimp only; ((try clear hf); have hf := hO.facts; (try simp only [FX, Nat.zero_add, Nat.reduceAdd, and_true, true_and, List.map_cons, List.map_nil, List.cons_append, List.nil_append] at hf)))) | (at_lookup; (refine wpList_wantedG rfl ?_; dsimp only; refine wpList_lookE hO (by repeat (first | with_reducible exact Pick.here _ _ | with_reducible apply Pick.there)) rfl _ _ rfl Tryd.underlying92 Tryd.underlying9 _ (Tryd.zeroB _) rfl rfl ?_; rw [HGET]; dsimp only [Option.getD])) | (go_at_call 54; (with_reducible apply Calls.mono (HH _); rintro e8 w8 ⟨rfl, hx8⟩; replace hO := hO.ext hx8; clear hx8; dsimp only; ((try clear hf); have hf := hO.facts; (try simp only [FX, Nat.zero_add, Nat.reduceAdd, and_true, true_and, List.map_cons, List.map_nil, List.cons_append, List.nil_append] at hf)))) | (with_reducible show wpList _ _ _ (Oper.mk _ (.mapUpdate _ _ _ _) _ _ _ _ :: _) _ _; (refine wpList_addE hO (by repeat (first | with_reducible exact Pick.here _ _ | with_reducible apply Pick.there)) rfl _ _ _ rfl Tryd.underlying92 Tryd.underlying9 rfl rfl (.bool true) rfl HOUT ?_; clear hO; intro w9 hO; ((try clear hf); have hf := hO.facts; (try simp only [FX, Nat.zero_add, Nat.reduceAdd, and_true, true_and, List.map_cons, List.map_nil, List.cons_append, List.nil_append] at hf)))) | ((first | with_reducible refine wpList_alloc_own hO ?_ | with_reducible refine wpList_drew_own hO ?_ | with_reducible refine wp_alloc_own hO ?_ | with_reducible refine wp_drew_own hO ?_ | with_reducible refine bodyPost_alloc_own hO ?_ | with_reducible refine bodyPost_drew_own hO ?_ | ((first | with_reducible apply wpList_set_own | with_reducible apply wp_set_own | with_reducible apply bodyPost_set_own); (focus (first | (with_reducible apply Own.set; (focus (with_reducible apply hO)); (repeat (first | with_reducible exact Put.here _ _ _ | with_reducible apply Put.there)); done) | (with_reducible apply Own.setRow; (focus (with_reducible apply hO)); (focus (repeat (first | with_reducible exact Put.here _ _ _ | with_reducible apply Put.there))); first | assumption | (simp; omega) | (simp; assumption)) | ((repeat' (first | with_reducible apply hO | with_reducible apply Own.set)); all_goals (repeat (first | with_reducible exact Put.here _ _ _ | with_reducible apply Put.there)); done))))); clear hO; intro w9 hO; (try dsimp only [List.set] at hO); ((try clear hf); have hf := hO.facts; (try simp only [FX, Nat.zero_add, Nat.reduceAdd, and_true, true_and, List.map_cons, List.map_nil, List.cons_append, List.nil_append] at hf))))
      go_end0
      refine ⟨(), rfl, ?_⟩
      rw [show ((cntA many (false) : Nat) : Int) = (many : Int) from by unfold cntA; simp]
      have hO := hO.toPure (p := SeenOk (E ++ [⟨key, .bool true, clock⟩]) (key :: K)) hS2.out
      (try simp only [List.cons_append, List.nil_append])
      refine Own.toEx ((E ++ [⟨key, .bool true, clock⟩]), clock + 1) (Own.pack ?_)
      dsimp only
      (try simp only [List.cons_append, List.nil_append])
      exact hO.cut (by repeat (first | with_reducible apply Sub.cons | with_reducible exact Pick.here _ _ | with_reducible apply Pick.there | with_reducible apply Sub.base | with_reducible exact Keeps.here _ | with_reducible apply Keeps.skip))
    | true =>
      cases hb with
      | false =>
        go_enter Tryd.func55, Tryd.ntmps55
        go_wp2_with (first | (go_at_call 32; (with_reducible apply Reads.use hO (HR); (focus (repeat (first | with_reducible exact Takes.nil _ | with_reducible apply Takes.cons | with_reducible exact Pick.here _ _ | with_reducible apply Pick.there))); clear hO; intro w9 hx9 hO; clear hx9; dsimp only; ((try clear hf); have hf := hO.facts; (try simp only [FX, Nat.zero_add, Nat.reduceAdd, and_true, true_and, List.map_cons, List.map_nil, List.cons_append, List.nil_append] at hf)))) | (at_lookup; (refine wpList_wantedG rfl ?_; dsimp only; refine wpList_lookE hO (by repeat (first | with_reducible exact Pick.here _ _ | with_reducible apply Pick.there)) rfl _ _ rfl Tryd.underlying92 Tryd.underlying9 _ (Tryd.zeroB _) rfl rfl ?_; rw [HGET]; dsimp only [Option.getD])) | (go_at_call 54; (with_reducible apply Calls.mono (HH _); rintro e8 w8 ⟨rfl, hx8⟩; replace hO := hO.ext hx8; clear hx8; dsimp only; ((try clear hf); have hf := hO.facts; (try simp only [FX, Nat.zero_add, Nat.reduceAdd, and_true, true_and, List.map_cons, List.map_nil, List.cons_append, List.nil_append] at hf)))) | (with_reducible show wpList _ _ _ (Oper.mk _ (.mapUpdate _ _ _ _) _ _ _ _ :: _) _ _; (refine wpList_addE hO (by repeat (first | with_reducible exact Pick.here _ _ | with_reducible apply Pick.there)) rfl _ _ _ rfl Tryd.underlying92 Tryd.underlying9 rfl rfl (.bool true) rfl HOUT ?_; clear hO; intro w9 hO; ((try clear hf); have hf := hO.facts; (try simp only [FX, Nat.zero_add, Nat.reduceAdd, and_true, true_and, List.map_cons, List.map_nil, List.cons_append, List.nil_append] at hf)))) | ((first | with_reducible refine wpList_alloc_own hO ?_ | with_reducible refine wpList_drew_own hO ?_ | with_reducible refine wp_alloc_own hO ?_ | with_reducible refine wp_drew_own hO ?_ | with_reducible refine bodyPost_alloc_own hO ?_ | with_reducible refine bodyPost_drew_own hO ?_ | ((first | with_reducible apply wpList_set_own | with_reducible apply wp_set_own | with_reducible apply bodyPost_set_own); (focus (first | (with_reducible apply Own.set; (focus (with_reducible apply hO)); (repeat (first | with_reducible exact Put.here _ _ _ | with_reducible apply Put.there)); done) | (with_reducible apply Own.setRow; (focus (with_reducible apply hO)); (focus (repeat (first | with_reducible exact Put.here _ _ _ | with_reducible apply Put.there))); first | assumption | (simp; omega) | (simp; assumption)) | ((repeat' (first | with_reducible apply hO | with_reducible apply Own.set)); all_goals (repeat (first | with_reducible exact Put.here _ _ _ | with_reducible apply Put.there)); done))))); clear hO; intro w9 hO; (try dsimp only [List.set] at hO); ((try clear hf); have hf := hO.facts; (try simp only [FX, Nat.zero_add, Nat.reduceAdd, and_true, true_and, List.map_cons, List.map_nil, List.cons_append, List.nil_append] at hf))))
        go_end0
        refine ⟨(), rfl, ?_⟩
        rw [show ((cntA many (false) : Nat) : Int) = (many : Int) from by unfold cntA; simp]
        have hO := hO.toPure (p := SeenOk (E ++ [⟨key, .bool true, clock⟩]) (key :: K)) hS2.out
        (try simp only [List.cons_append, List.nil_append])
        refine Own.toEx ((E ++ [⟨key, .bool true, clock⟩]), clock + 1) (Own.pack ?_)
        dsimp only
        (try simp only [List.cons_append, List.nil_append])
        exact hO.cut (by repeat (first | with_reducible apply Sub.cons | with_reducible exact Pick.here _ _ | with_reducible apply Pick.there | with_reducible apply Sub.base | with_reducible exact Keeps.here _ | with_reducible apply Keeps.skip))
      | true =>
        go_enter Tryd.func55, Tryd.ntmps55
        go_wp2_with (first | (go_at_call 32; (with_reducible apply Reads.use hO (HR); (focus (repeat (first | with_reducible exact Takes.nil _ | with_reducible apply Takes.cons | with_reducible exact Pick.here _ _ | with_reducible apply Pick.there))); clear hO; intro w9 hx9 hO; clear hx9; dsimp only; ((try clear hf); have hf := hO.facts; (try simp only [FX, Nat.zero_add, Nat.reduceAdd, and_true, true_and, List.map_cons, List.map_nil, List.cons_append, List.nil_append] at hf)))) | (at_lookup; (refine wpList_wantedG rfl ?_; dsimp only; refine wpList_lookE hO (by repeat (first | with_reducible exact Pick.here _ _ | with_reducible apply Pick.there)) rfl _ _ rfl Tryd.underlying92 Tryd.underlying9 _ (Tryd.zeroB _) rfl rfl ?_; rw [HGET]; dsimp only [Option.getD])) | (go_at_call 54; (with_reducible apply Calls.mono (HH _); rintro e8 w8 ⟨rfl, hx8⟩; replace hO := hO.ext hx8; clear hx8; dsimp only; ((try clear hf); have hf := hO.facts; (try simp only [FX, Nat.zero_add, Nat.reduceAdd, and_true, true_and, List.map_cons, List.map_nil, List.cons_append, List.nil_append] at hf)))) | (with_reducible show wpList _ _ _ (Oper.mk _ (.mapUpdate _ _ _ _) _ _ _ _ :: _) _ _; (refine wpList_addE hO (by repeat (first | with_reducible exact Pick.here _ _ | with_reducible apply Pick.there)) rfl _ _ _ rfl Tryd.underlying92 Tryd.underlying9 rfl rfl (.bool true) rfl HOUT ?_; clear hO; intro w9 hO; ((try clear hf); have hf := hO.facts; (try simp only [FX, Nat.zero_add, Nat.reduceAdd, and_true, true_and, List.map_cons, List.map_nil, List.cons_append, List.nil_append] at hf)))) | ((first | with_reducible refine wpList_alloc_own hO ?_ | with_reducible refine wpList_drew_own hO ?_ | with_reducible refine wp_alloc_own hO ?_ | with_reducible refine wp_drew_own hO ?_ | with_reducible refine bodyPost_alloc_own hO ?_ | with_reducible refine bodyPost_drew_own hO ?_ | ((first | with_reducible apply wpList_set_own | with_reducible apply wp_set_own | with_reducible apply bodyPost_set_own); (focus (first | (with_reducible apply Own.set; (focus (with_reducible apply hO)); (repeat (first | with_reducible exact Put.here _ _ _ | with_reducible apply Put.there)); done) | (with_reducible apply Own.setRow; (focus (with_reducible apply hO)); (focus (repeat (first | with_reducible exact Put.here _ _ _ | with_reducible apply Put.there))); first | assumption | (simp; omega) | (simp; assumption)) | ((repeat' (first | with_reducible apply hO | with_reducible apply Own.set)); all_goals (repeat (first | with_reducible exact Put.here _ _ _ | with_reducible apply Put.there)); done))))); clear hO; intro w9 hO; (try dsimp only [List.set] at hO); ((try clear hf); have hf := hO.facts; (try simp only [FX, Nat.zero_add, Nat.reduceAdd, and_true, true_and, List.map_cons, List.map_nil, List.cons_append, List.nil_append] at hf))))
        go_end0
        refine ⟨(), rfl, ?_⟩
        rw [show ((cntA many (true) : Nat) : Int) = (many : Int) + 1 from by unfold cntA; simp]
        have hO := hO.toPure (p := SeenOk (E ++ [⟨key, .bool true, clock⟩]) (key :: K)) hS2.out
        (try simp only [List.cons_append, List.nil_append])
        refine Own.toEx ((E ++ [⟨key, .bool true, clock⟩]), clock + 1) (Own.pack ?_)
        dsimp only
        (try simp only [List.cons_append, List.nil_append])
        exact hO.cut (by repeat (first | with_reducible apply Sub.cons | with_reducible exact Pick.here _ _ | with_reducible apply Pick.there | with_reducible apply Sub.base | with_reducible exact Keeps.here _ | with_reducible apply Keeps.skip))
end Go.Proofs.YtpdnlgopbnkdhaaDoor
namespace Go.Proofs.YtpdnlgopbnkdhaaDoor
open Go.RowKit
theorem hasB_nil (k : ByteArray) : hasB ⟨#[]⟩ ⟨#[]⟩ k = true := by
  unfold hasB belowB slt
  rw [show (⟨#[]⟩ : ByteArray).toList = [] from by rw [ByteArray.toList_eq]]
  cases k.toList <;> rfl
theorem fact3 : (scanV (putV 1 (newV []) cTx) (hasB ⟨#[]⟩ ⟨#[]⟩) 1).length = 1 := by
  rw [(scanV_perm _ _ _).length_eq]
  show (scanL [(kTA, [⟨1, ⟨#[120]⟩, false⟩])] _ 1).length = 1
  unfold scanL
  rw [List.filterMap_cons, hasB_nil, show atV [⟨1, ⟨#[120]⟩, false⟩] 1 = (⟨#[120]⟩, true) from by rw [show ([⟨1, ⟨#[120]⟩, false⟩] : List Vn) = [] ++ [⟨1, ⟨#[120]⟩, false⟩] from rfl, atV_snoc, if_pos (by decide)]; rfl]
  rfl
/-- One key more. -/
theorem dist_step (f : ByteArray → Bool) (many : Nat) (K : List ByteArray) (k : ByteArray) (rest : List ByteArray) : cntA many (f k && outB k K) + (distK f (k :: K) rest).length = many + (distK f K (k :: rest)).length := by
  rw [distK]
  by_cases h : f k = true ∧ k ∉ K
  · rw [if_pos h, h.1, outB_out h.2, List.length_cons]
    unfold cntA
    simp; omega
  · rw [if_neg h]
    have : (f k && outB k K) = false := by
      cases hf : f k with
      | false => rfl
      | true =>
        rw [outB_in (by by_cases hk : k ∈ K; exact hk; exact absurd ⟨hf, hk⟩ h)]
        rfl
    rw [this]
    rfl
def dkeys (D : List DV) : List ByteArray := D.flatMap fun d => d.2.2.map Ch.key
theorem GrV.total {rows : List Rw} {D : List DV} {nn : Nat} {V : List (ByteArray × List Vn)} (h : GrV rows D nn V) (f : ByteArray → Bool) (n : Int) : (distK (fun k => (readV V k n).2 && f k) [] (rows.map Rw.key ++ dkeys D)).length = (scanV V f n).length := by
  refine scan_count h.inv.keys fun k hk => ?_
  have h1 := grows_keys (dss D) (s := (0, newV rows)) (k := k) (by
    have := h.eq
    unfold growV at this
    rw [this]; exact hk)
  rcases h1 with h1 | ⟨C, hC, h1⟩
  · refine List.mem_append_left _ ?_
    unfold newV at h1
    rw [List.map_map] at h1
    exact h1
  · refine List.mem_append_right _ ?_
    obtain ⟨d, hd, rfl⟩ := List.mem_map.1 hC
    exact List.mem_flatMap.2 ⟨d, hd, h1⟩
def TsArg (ra : Option Addr) (rows : List Rw) (da : Option Addr) (D : List DV) (w : World) : Prop := LibOk w ∧ ValsAt w ra (rows.flatMap rwC) ∧ DIn w da D
theorem TsArg.base {ra : Option Addr} {rows : List Rw} {da : Option Addr} {D : List DV} {w : World} (h : TsArg ra rows da D w) : Own (fun _ => False) w w [.imm (TsArg ra rows da D)] :=
  Own.base w _ fun w' hw' => ⟨h.1.up hw', vals_up h.2.1 hw', h.2.2.up hw'⟩
set_option maxHeartbeats 4000000 in
set_option maxRecDepth 100000 in
theorem topScan_any (ra : Option Addr) (n rc : Nat) (rows : List Rw) (da : Option Addr) (m dc : Nat) (D : List DV) (lo hi : ByteArray) (x : Int) (W : World) (hφ : TsArg ra rows da D W) (hrl : rows.length = n) (hdl : D.length = m)
    (hn : n ≤ 9223372036854775807) (hm : m ≤ 9223372036854775807) :
    Calls Tryd.prog 8 #[.slice ra n rc, .slice da m dc, .agg #[.string lo, .string hi], .int .i64 x] W fun e w' => e = .returned (.bool true) ∧ Ext W w' := by
  have hO := (hφ.base.again).imp (ψ := LibOk) fun _ h => h.1
  have HG := fun w (h : TsArg ra rows da D w) => goodRowsT_any ra n rc rows hrl hn w h.1 h.2.1
  have HL : ∀ w, TsArg ra rows da D w → Calls Tryd.prog 38 #[.slice da m dc, .int .i64 12] w fun e w' => e = .returned (.bool (lightDs D 12)) ∧ w' = w := fun w h => lightDs_any da m dc D 12 w hdl hm (by omega) h.2.2
  have HALL : ∀ w, Calls Tryd.prog 53 #[] w fun e w' => e = .returned (.agg #[.string ⟨#[]⟩, .string ⟨#[]⟩]) ∧ Ext w w' := fun w => all_any w
  have HSP : ∀ w b, (Var b [.string lo, .string hi] 67).facts w → Calls Tryd.prog 52 #[.slice (some ⟨b, 0, none⟩) 1 1] w fun e w' => e = .returned (.bool (lightSpans [⟨lo, hi⟩])) ∧ w' = w := fun w b h =>
    lightSpans_any (some ⟨b, 0, none⟩) 1 [⟨lo, hi⟩] w (by unfold maxLen; simp) (.inr ⟨b, 0, rfl, fun i hi' => by
      obtain rfl : i = 0 := by simpa using hi'
      exact ⟨Var.cells (t := 67) h.1 (k := 0) rfl, Var.cells (t := 67) h.1 (k := 1) rfl⟩⟩)
  have HG0 := fun (b d : Nat) (φ : World → Prop) (hh : ∀ w, φ w → LibOk w ∧ ValsAt w none (([] : List Rw).flatMap rwC) ∧ DLAt w (some ⟨d, 0, none⟩) [(some ⟨b, 0, none⟩, 1, [cTx])]) =>
    grown_does none 0 0 [] (some ⟨d, 0, none⟩) 1 1 [(some ⟨b, 0, none⟩, 1, [cTx])] rfl (by omega) .nil rfl (by omega) (cTx_light b) hh
  simp only [show ∀ (b : Nat), dss [(some (⟨b, 0, none⟩ : Addr), 1, [cTx])] = [[cTx]] from fun _ => rfl, growTx] at HG0
  ((try clear hf); have hf := hO.facts; (try simp only [FX, Nat.zero_add, Nat.reduceAdd, and_true, true_and, List.map_cons, List.map_nil, List.cons_append, List.nil_append] at hf))
  go_enter Tryd.func8, Tryd.ntmps8
  go_wp2_with (first | ((first | with_reducible refine wpList_alloc_own hO ?_ | with_reducible refine wpList_drew_own hO ?_ | with_reducible refine wp_alloc_own hO ?_ | with_reducible refine wp_drew_own hO ?_ | with_reducible refine bodyPost_alloc_own hO ?_ | with_reducible refine bodyPost_drew_own hO ?_ | ((first | with_reducible apply wpList_set_own | with_reducible apply wp_set_own | with_reducible apply bodyPost_set_own); (focus (first | (with_reducible apply Own.set; (focus (with_reducible apply hO)); (repeat (first | with_reducible exact Put.here _ _ _ | with_reducible apply Put.there)); done) | (with_reducible apply Own.setRow; (focus (with_reducible apply hO)); (focus (repeat (first | with_reducible exact Put.here _ _ _ | with_reducible apply Put.there))); first | assumption | (simp; omega) | (simp; assumption)) | ((repeat' (first | with_reducible apply hO | with_reducible apply Own.set)); all_goals (repeat (first | with_reducible exact Put.here _ _ _ | with_reducible apply Put.there)); done))))); clear hO; intro w9 hO; (try dsimp only [List.set] at hO); ((try clear hf); have hf := hO.facts; (try simp only [FX, Nat.zero_add, Nat.reduceAdd, and_true, true_and, List.map_cons, List.map_nil, List.cons_append, List.nil_append] at hf))))
  obtain ⟨g, hg9⟩ := (hO.pick (r := Var _ [.string lo, .string hi] 67) (by repeat (first | with_reducible exact Pick.here _ _ | with_reducible apply Pick.there))).named
  rw [← hg9]; rw [← hg9] at hO; clear hg9
  obtain ⟨gc, hg9⟩ := (hO.pick (r := Var _ [.string ⟨#[116, 47, 97]⟩, .string ⟨#[120]⟩, .bool false] 74) (by repeat (first | with_reducible exact Pick.here _ _ | with_reducible apply Pick.there))).named
  rw [← hg9]; rw [← hg9] at hO; clear hg9
  obtain ⟨gd, hg9⟩ := (hO.pick (r := Var _ [.slice (some ⟨gc, 0, none⟩) 1 1] 44) (by repeat (first | with_reducible exact Pick.here _ _ | with_reducible apply Pick.there))).named
  rw [← hg9]; rw [← hg9] at hO; clear hg9
  replace hO := (hO.pick (r := .imm LibOk) (by repeat (first | with_reducible exact Pick.here _ _ | with_reducible apply Pick.there))).again.closedG (ρ := LibOk) (c := cTx) (cs := [.string ⟨#[116, 47, 97]⟩, .string ⟨#[120]⟩, .bool false]) rfl (by repeat (first | with_reducible exact Takes.nil _ | with_reducible apply Takes.cons | with_reducible exact Pick.here _ _ | with_reducible apply Pick.there))
  refine Does.use hO (HG0 gc gd (fun w => LibOk w ∧ DLAt w (some ⟨gd, 0, none⟩) [(some ⟨gc, 0, none⟩, 1, [cTx])]) (fun w h => ⟨h.1, .inl rfl, h.2⟩)) (by repeat (first | with_reducible exact Takes.nil _ | with_reducible apply Takes.cons | with_reducible exact Pick.here _ _ | with_reducible apply Pick.there)) ?_
  clear hO
  intro p w4 hO
  dsimp only at hO ⊢
  simp only [List.cons_append, List.nil_append] at hO
  ((try clear hf); have hf := hO.facts; (try simp only [FX, Nat.zero_add, Nat.reduceAdd, and_true, true_and, List.map_cons, List.map_nil, List.cons_append, List.nil_append] at hf))
  have HS0 := vscan_does p 1 (putV 1 (newV []) cTx) ⟨#[]⟩ ⟨#[]⟩ 1 (by have h2 := (putV_len 1 cTx (newV [])).1; have h3 : (newV []).length = 0 := rfl; omega) (fun e he => by have h1 := cnt_mem he; have h2 := (putV_len 1 cTx (newV [])).2; have h3 : cntV (newV []) = 0 := rfl; omega)
  have hf3 := fact3
  generalize scanV (putV 1 (newV []) cTx) (hasB ⟨#[]⟩ ⟨#[]⟩) 1 = S0 at HS0 hf3
  rw [hf3] at HS0
  clear hf3
  cases hgr : goodR rows with
  | false =>
    rw [hgr] at HG
    go_wp2_with (first | (go_at_call 53; (with_reducible apply Calls.mono (HALL _); rintro e8 w8 ⟨rfl, hx8⟩; replace hO := hO.ext hx8; clear hx8; dsimp only; ((try clear hf); have hf := hO.facts; (try simp only [FX, Nat.zero_add, Nat.reduceAdd, and_true, true_and, List.map_cons, List.map_nil, List.cons_append, List.nil_append] at hf)))) | (go_at_call 35; (with_reducible apply Does.use hO (HS0); (focus (repeat (first | with_reducible exact Takes.nil _ | with_reducible apply Takes.cons | with_reducible exact Pick.here _ _ | with_reducible apply Pick.there))); clear hO; intro x9 w9 hO; dsimp only at hO ⊢; simp only [List.cons_append, List.nil_append] at hO; ((try clear hf); have hf := hO.facts; (try simp only [FX, Nat.zero_add, Nat.reduceAdd, and_true, true_and, List.map_cons, List.map_nil, List.cons_append, List.nil_append] at hf)))) | (go_at_call 45; (with_reducible apply Calls.mono (HG _ (Own.immOf (φ := TsArg ra rows da D) hO (by repeat (first | with_reducible exact Pick.here _ _ | with_reducible apply Pick.there)))); rintro e8 w8 ⟨rfl, hx8⟩; replace hO := hO.ext hx8; clear hx8; dsimp only; ((try clear hf); have hf := hO.facts; (try simp only [FX, Nat.zero_add, Nat.reduceAdd, and_true, true_and, List.map_cons, List.map_nil, List.cons_append, List.nil_append] at hf)))) | (go_at_call 38; (with_reducible apply Calls.mono (HL _ (Own.immOf (φ := TsArg ra rows da D) hO (by repeat (first | with_reducible exact Pick.here _ _ | with_reducible apply Pick.there)))); rintro e8 w8 ⟨rfl, rfl⟩; dsimp only)) | (go_at_call 52; (with_reducible apply Calls.mono (HSP _ _ (hO.factOf (r := Var _ [.string lo, .string hi] 67) (by repeat (first | with_reducible exact Pick.here _ _ | with_reducible apply Pick.there)))); rintro e8 w8 ⟨rfl, rfl⟩; dsimp only)) | ((first | with_reducible refine wpList_alloc_own hO ?_ | with_reducible refine wpList_drew_own hO ?_ | with_reducible refine wp_alloc_own hO ?_ | with_reducible refine wp_drew_own hO ?_ | with_reducible refine bodyPost_alloc_own hO ?_ | with_reducible refine bodyPost_drew_own hO ?_ | ((first | with_reducible apply wpList_set_own | with_reducible apply wp_set_own | with_reducible apply bodyPost_set_own); (focus (first | (with_reducible apply Own.set; (focus (with_reducible apply hO)); (repeat (first | with_reducible exact Put.here _ _ _ | with_reducible apply Put.there)); done) | (with_reducible apply Own.setRow; (focus (with_reducible apply hO)); (focus (repeat (first | with_reducible exact Put.here _ _ _ | with_reducible apply Put.there))); first | assumption | (simp; omega) | (simp; assumption)) | ((repeat' (first | with_reducible apply hO | with_reducible apply Own.set)); all_goals (repeat (first | with_reducible exact Put.here _ _ _ | with_reducible apply Put.there)); done))))); clear hO; intro w9 hO; (try dsimp only [List.set] at hO); ((try clear hf); have hf := hO.facts; (try simp only [FX, Nat.zero_add, Nat.reduceAdd, and_true, true_and, List.map_cons, List.map_nil, List.cons_append, List.nil_append] at hf))))
    all_goals first | (exfalso; simp_all; done) | (go_ret; exact ⟨rfl, hO.toExt⟩)
  | true =>
  rw [hgr] at HG
  cases hld : lightDs D 12 with
  | false =>
    rw [hld] at HL
    go_wp2_with (first | (go_at_call 53; (with_reducible apply Calls.mono (HALL _); rintro e8 w8 ⟨rfl, hx8⟩; replace hO := hO.ext hx8; clear hx8; dsimp only; ((try clear hf); have hf := hO.facts; (try simp only [FX, Nat.zero_add, Nat.reduceAdd, and_true, true_and, List.map_cons, List.map_nil, List.cons_append, List.nil_append] at hf)))) | (go_at_call 35; (with_reducible apply Does.use hO (HS0); (focus (repeat (first | with_reducible exact Takes.nil _ | with_reducible apply Takes.cons | with_reducible exact Pick.here _ _ | with_reducible apply Pick.there))); clear hO; intro x9 w9 hO; dsimp only at hO ⊢; simp only [List.cons_append, List.nil_append] at hO; ((try clear hf); have hf := hO.facts; (try simp only [FX, Nat.zero_add, Nat.reduceAdd, and_true, true_and, List.map_cons, List.map_nil, List.cons_append, List.nil_append] at hf)))) | (go_at_call 45; (with_reducible apply Calls.mono (HG _ (Own.immOf (φ := TsArg ra rows da D) hO (by repeat (first | with_reducible exact Pick.here _ _ | with_reducible apply Pick.there)))); rintro e8 w8 ⟨rfl, hx8⟩; replace hO := hO.ext hx8; clear hx8; dsimp only; ((try clear hf); have hf := hO.facts; (try simp only [FX, Nat.zero_add, Nat.reduceAdd, and_true, true_and, List.map_cons, List.map_nil, List.cons_append, List.nil_append] at hf)))) | (go_at_call 38; (with_reducible apply Calls.mono (HL _ (Own.immOf (φ := TsArg ra rows da D) hO (by repeat (first | with_reducible exact Pick.here _ _ | with_reducible apply Pick.there)))); rintro e8 w8 ⟨rfl, rfl⟩; dsimp only)) | (go_at_call 52; (with_reducible apply Calls.mono (HSP _ _ (hO.factOf (r := Var _ [.string lo, .string hi] 67) (by repeat (first | with_reducible exact Pick.here _ _ | with_reducible apply Pick.there)))); rintro e8 w8 ⟨rfl, rfl⟩; dsimp only)) | ((first | with_reducible refine wpList_alloc_own hO ?_ | with_reducible refine wpList_drew_own hO ?_ | with_reducible refine wp_alloc_own hO ?_ | with_reducible refine wp_drew_own hO ?_ | with_reducible refine bodyPost_alloc_own hO ?_ | with_reducible refine bodyPost_drew_own hO ?_ | ((first | with_reducible apply wpList_set_own | with_reducible apply wp_set_own | with_reducible apply bodyPost_set_own); (focus (first | (with_reducible apply Own.set; (focus (with_reducible apply hO)); (repeat (first | with_reducible exact Put.here _ _ _ | with_reducible apply Put.there)); done) | (with_reducible apply Own.setRow; (focus (with_reducible apply hO)); (focus (repeat (first | with_reducible exact Put.here _ _ _ | with_reducible apply Put.there))); first | assumption | (simp; omega) | (simp; assumption)) | ((repeat' (first | with_reducible apply hO | with_reducible apply Own.set)); all_goals (repeat (first | with_reducible exact Put.here _ _ _ | with_reducible apply Put.there)); done))))); clear hO; intro w9 hO; (try dsimp only [List.set] at hO); ((try clear hf); have hf := hO.facts; (try simp only [FX, Nat.zero_add, Nat.reduceAdd, and_true, true_and, List.map_cons, List.map_nil, List.cons_append, List.nil_append] at hf))))
    all_goals first | (exfalso; simp_all; done) | (go_ret; exact ⟨rfl, hO.toExt⟩)
  | true =>
  rw [hld] at HL
  cases hsp : lightSpans [⟨lo, hi⟩] with
  | false =>
    rw [hsp] at HSP
    go_wp2_with (first | (go_at_call 53; (with_reducible apply Calls.mono (HALL _); rintro e8 w8 ⟨rfl, hx8⟩; replace hO := hO.ext hx8; clear hx8; dsimp only; ((try clear hf); have hf := hO.facts; (try simp only [FX, Nat.zero_add, Nat.reduceAdd, and_true, true_and, List.map_cons, List.map_nil, List.cons_append, List.nil_append] at hf)))) | (go_at_call 35; (with_reducible apply Does.use hO (HS0); (focus (repeat (first | with_reducible exact Takes.nil _ | with_reducible apply Takes.cons | with_reducible exact Pick.here _ _ | with_reducible apply Pick.there))); clear hO; intro x9 w9 hO; dsimp only at hO ⊢; simp only [List.cons_append, List.nil_append] at hO; ((try clear hf); have hf := hO.facts; (try simp only [FX, Nat.zero_add, Nat.reduceAdd, and_true, true_and, List.map_cons, List.map_nil, List.cons_append, List.nil_append] at hf)))) | (go_at_call 45; (with_reducible apply Calls.mono (HG _ (Own.immOf (φ := TsArg ra rows da D) hO (by repeat (first | with_reducible exact Pick.here _ _ | with_reducible apply Pick.there)))); rintro e8 w8 ⟨rfl, hx8⟩; replace hO := hO.ext hx8; clear hx8; dsimp only; ((try clear hf); have hf := hO.facts; (try simp only [FX, Nat.zero_add, Nat.reduceAdd, and_true, true_and, List.map_cons, List.map_nil, List.cons_append, List.nil_append] at hf)))) | (go_at_call 38; (with_reducible apply Calls.mono (HL _ (Own.immOf (φ := TsArg ra rows da D) hO (by repeat (first | with_reducible exact Pick.here _ _ | with_reducible apply Pick.there)))); rintro e8 w8 ⟨rfl, rfl⟩; dsimp only)) | (go_at_call 52; (with_reducible apply Calls.mono (HSP _ _ (hO.factOf (r := Var _ [.string lo, .string hi] 67) (by repeat (first | with_reducible exact Pick.here _ _ | with_reducible apply Pick.there)))); rintro e8 w8 ⟨rfl, rfl⟩; dsimp only)) | ((first | with_reducible refine wpList_alloc_own hO ?_ | with_reducible refine wpList_drew_own hO ?_ | with_reducible refine wp_alloc_own hO ?_ | with_reducible refine wp_drew_own hO ?_ | with_reducible refine bodyPost_alloc_own hO ?_ | with_reducible refine bodyPost_drew_own hO ?_ | ((first | with_reducible apply wpList_set_own | with_reducible apply wp_set_own | with_reducible apply bodyPost_set_own); (focus (first | (with_reducible apply Own.set; (focus (with_reducible apply hO)); (repeat (first | with_reducible exact Put.here _ _ _ | with_reducible apply Put.there)); done) | (with_reducible apply Own.setRow; (focus (with_reducible apply hO)); (focus (repeat (first | with_reducible exact Put.here _ _ _ | with_reducible apply Put.there))); first | assumption | (simp; omega) | (simp; assumption)) | ((repeat' (first | with_reducible apply hO | with_reducible apply Own.set)); all_goals (repeat (first | with_reducible exact Put.here _ _ _ | with_reducible apply Put.there)); done))))); clear hO; intro w9 hO; (try dsimp only [List.set] at hO); ((try clear hf); have hf := hO.facts; (try simp only [FX, Nat.zero_add, Nat.reduceAdd, and_true, true_and, List.map_cons, List.map_nil, List.cons_append, List.nil_append] at hf))))
    all_goals first | (exfalso; simp_all; done) | (go_ret; exact ⟨rfl, hO.toExt⟩)
  | true =>
  rw [hsp] at HSP
  clear hsp
  obtain ⟨h50, hup, _⟩ := goodR_ok hgr
  obtain ⟨h12, hlc⟩ := lightDs_of hld
  obtain ⟨nn, V, HGV⟩ := GrV.of hup h50 h12 fun d hd => (hlc d hd).1
  have HGR := grown_does ra n rc rows da m dc D hrl (by omega) hup hdl (by omega) hlc (φ := TsArg ra rows da D) fun w h => ⟨h.1, h.2.1, h.2.2.1⟩
  rw [HGV.eq] at HGR
  dsimp only at HGR
  have hnn := HGV.now
  have hlen := HGV.len
  have hcnt := HGV.cnt
  have HGVH := Lib.hid HGV
  have HLC := Lib.hid hlc
  clear HGV hlc hld hgr
  go_upto_region 8 with (first | (go_at_call 53; (with_reducible apply Calls.mono (HALL _); rintro e8 w8 ⟨rfl, hx8⟩; replace hO := hO.ext hx8; clear hx8; dsimp only; ((try clear hf); have hf := hO.facts; (try simp only [FX, Nat.zero_add, Nat.reduceAdd, and_true, true_and, List.map_cons, List.map_nil, List.cons_append, List.nil_append] at hf)))) | (go_at_call 35; (with_reducible apply Does.use hO (HS0); (focus (repeat (first | with_reducible exact Takes.nil _ | with_reducible apply Takes.cons | with_reducible exact Pick.here _ _ | with_reducible apply Pick.there))); clear hO; intro x9 w9 hO; dsimp only at hO ⊢; simp only [List.cons_append, List.nil_append] at hO; ((try clear hf); have hf := hO.facts; (try simp only [FX, Nat.zero_add, Nat.reduceAdd, and_true, true_and, List.map_cons, List.map_nil, List.cons_append, List.nil_append] at hf)))) | (go_at_call 45; (with_reducible apply Calls.mono (HG _ (Own.immOf (φ := TsArg ra rows da D) hO (by repeat (first | with_reducible exact Pick.here _ _ | with_reducible apply Pick.there)))); rintro e8 w8 ⟨rfl, hx8⟩; replace hO := hO.ext hx8; clear hx8; dsimp only; ((try clear hf); have hf := hO.facts; (try simp only [FX, Nat.zero_add, Nat.reduceAdd, and_true, true_and, List.map_cons, List.map_nil, List.cons_append, List.nil_append] at hf)))) | (go_at_call 38; (with_reducible apply Calls.mono (HL _ (Own.immOf (φ := TsArg ra rows da D) hO (by repeat (first | with_reducible exact Pick.here _ _ | with_reducible apply Pick.there)))); rintro e8 w8 ⟨rfl, rfl⟩; dsimp only)) | (go_at_call 52; (with_reducible apply Calls.mono (HSP _ _ (hO.factOf (r := Var _ [.string lo, .string hi] 67) (by repeat (first | with_reducible exact Pick.here _ _ | with_reducible apply Pick.there)))); rintro e8 w8 ⟨rfl, rfl⟩; dsimp only)) | (go_at_call 51; (with_reducible apply Does.use hO (HGR); (focus (repeat (first | with_reducible exact Takes.nil _ | with_reducible apply Takes.cons | with_reducible exact Pick.here _ _ | with_reducible apply Pick.there))); clear hO; intro x9 w9 hO; dsimp only at hO ⊢; simp only [List.cons_append, List.nil_append] at hO; ((try clear hf); have hf := hO.facts; (try simp only [FX, Nat.zero_add, Nat.reduceAdd, and_true, true_and, List.map_cons, List.map_nil, List.cons_append, List.nil_append] at hf)); (rename Nat => q))) | (go_at_call 37; (with_reducible apply Reads.use hO ((vnowR _ _ _)); (focus (repeat (first | with_reducible exact Takes.nil _ | with_reducible apply Takes.cons | with_reducible exact Pick.here _ _ | with_reducible apply Pick.there))); clear hO; intro w9 hx9 hO; clear hx9; dsimp only; ((try clear hf); have hf := hO.facts; (try simp only [FX, Nat.zero_add, Nat.reduceAdd, and_true, true_and, List.map_cons, List.map_nil, List.cons_append, List.nil_append] at hf)))) | ((first | with_reducible refine wpList_alloc_own hO ?_ | with_reducible refine wpList_drew_own hO ?_ | with_reducible refine wp_alloc_own hO ?_ | with_reducible refine wp_drew_own hO ?_ | with_reducible refine bodyPost_alloc_own hO ?_ | with_reducible refine bodyPost_drew_own hO ?_ | ((first | with_reducible apply wpList_set_own | with_reducible apply wp_set_own | with_reducible apply bodyPost_set_own); (focus (first | (with_reducible apply Own.set; (focus (with_reducible apply hO)); (repeat (first | with_reducible exact Put.here _ _ _ | with_reducible apply Put.there)); done) | (with_reducible apply Own.setRow; (focus (with_reducible apply hO)); (focus (repeat (first | with_reducible exact Put.here _ _ _ | with_reducible apply Put.there))); first | assumption | (simp; omega) | (simp; assumption)) | ((repeat' (first | with_reducible apply hO | with_reducible apply Own.set)); all_goals (repeat (first | with_reducible exact Put.here _ _ _ | with_reducible apply Put.there)); done))))); clear hO; intro w9 hO; (try dsimp only [List.set] at hO); ((try clear hf); have hf := hO.facts; (try simp only [FX, Nat.zero_add, Nat.reduceAdd, and_true, true_and, List.map_cons, List.map_nil, List.cons_append, List.nil_append] at hf))))
  all_goals try (exfalso; unfold wrap64 at *; omega)
  obtain ⟨x0, x1⟩ := and1023 x
  obtain ⟨kk, hk1, ha⟩ : ∃ kk : Nat, kk ≤ nn ∧ (bits .and .i64 x 1023).tmod ((nn : Int) + 1) = (kk : Int) := by
    have h1 := Int.tmod_nonneg (b := (nn : Int) + 1) x0
    have h2 := Int.tmod_lt_of_pos (bits .and .i64 x 1023) (b := (nn : Int) + 1) (by omega)
    exact ⟨((bits .and .i64 x 1023).tmod ((nn : Int) + 1)).toNat, by omega, by omega⟩
  rw [ha] at hO ⊢
  clear ha x0 x1
  obtain ⟨gk, hg9⟩ := (hO.pick (r := Var _ [.int .i64 kk] 3) (by repeat (first | with_reducible exact Pick.here _ _ | with_reducible apply Pick.there))).named
  rw [← hg9]; rw [← hg9] at hO; clear hg9
  obtain ⟨gv, hg9⟩ := (hO.pick (r := Var _ [.pointer (some ⟨q, 0, none⟩)] 53) (by repeat (first | with_reducible exact Pick.here _ _ | with_reducible apply Pick.there))).named
  rw [← hg9]; rw [← hg9] at hO; clear hg9
  have hVl : ∀ e ∈ V, e.2.length ≤ 218 := fun e he => Nat.le_trans (cnt_mem he) hcnt
  have HSC := vscan_does q nn V lo hi kk (by omega) (fun e he => by have := hVl e he; omega)
  have hsl := scanV_len V (hasB lo hi) kk
  have hsu := scanV_ups HGVH.out.inv.keys (hasB lo hi) kk
  have hsm := fun r => (mem_scanV HGVH.out.inv.keys (f := hasB lo hi) (n := kk) (r := r)).1
  have htot := HGVH.out.total (hasB lo hi) kk
  generalize scanV V (hasB lo hi) (kk : Int) = SC at *
  have HSU := Lib.hid hsu
  have HSM := Lib.hid hsm
  have HTOT := Lib.hid htot
  have HVL := Lib.hid hVl
  clear hsu hsm htot hVl
  ((try clear hf); have hf := hO.facts; (try simp only [FX, Nat.zero_add, Nat.reduceAdd, and_true, true_and, List.map_cons, List.map_nil, List.cons_append, List.nil_append] at hf))
  go_wp2_with (first | (go_at_call 35; (with_reducible apply Does.use hO (HSC); (focus (repeat (first | with_reducible exact Takes.nil _ | with_reducible apply Takes.cons | with_reducible exact Pick.here _ _ | with_reducible apply Pick.there))); clear hO; intro x9 w9 hO; dsimp only at hO ⊢; simp only [List.cons_append, List.nil_append] at hO; ((try clear hf); have hf := hO.facts; (try simp only [FX, Nat.zero_add, Nat.reduceAdd, and_true, true_and, List.map_cons, List.map_nil, List.cons_append, List.nil_append] at hf)); (obtain ⟨sa, sc⟩ := x9; dsimp only at hO ⊢; ((try clear hf); have hf := hO.facts; (try simp only [FX, Nat.zero_add, Nat.reduceAdd, and_true, true_and, List.map_cons, List.map_nil, List.cons_append, List.nil_append] at hf))))) | ((first | with_reducible refine wpList_alloc_own hO ?_ | with_reducible refine wpList_drew_own hO ?_ | with_reducible refine wp_alloc_own hO ?_ | with_reducible refine wp_drew_own hO ?_ | with_reducible refine bodyPost_alloc_own hO ?_ | with_reducible refine bodyPost_drew_own hO ?_ | ((first | with_reducible apply wpList_set_own | with_reducible apply wp_set_own | with_reducible apply bodyPost_set_own); (focus (first | (with_reducible apply Own.set; (focus (with_reducible apply hO)); (repeat (first | with_reducible exact Put.here _ _ _ | with_reducible apply Put.there)); done) | (with_reducible apply Own.setRow; (focus (with_reducible apply hO)); (focus (repeat (first | with_reducible exact Put.here _ _ _ | with_reducible apply Put.there))); first | assumption | (simp; omega) | (simp; assumption)) | ((repeat' (first | with_reducible apply hO | with_reducible apply Own.set)); all_goals (repeat (first | with_reducible exact Put.here _ _ _ | with_reducible apply Put.there)); done))))); clear hO; intro w9 hO; (try dsimp only [List.set] at hO); ((try clear hf); have hf := hO.facts; (try simp only [FX, Nat.zero_add, Nat.reduceAdd, and_true, true_and, List.map_cons, List.map_nil, List.cons_append, List.nil_append] at hf))))
  have hO9 := hO
  clear hO hf HSC HG HL HALL HSP HG0 HGR HS0
  go_loopw [13] (fun v wr => ∃ i : Nat, v = .int .i64 i ∧ i ≤ SC.length ∧ Own (fun _ => False) W wr [VerR q nn V, Row2 90 2 sa SC.length sc (SC.flatMap rwC), Var gk [.int .i64 kk] 3, Var gv [.pointer (some ⟨q, 0, none⟩)] 53, .imm (TsArg ra rows da D), Var g [.string lo, .string hi] 67]) (fun v _ => SC.length - (intOf v).toNat)
  case atStart => exact ⟨0, rfl, by omega, hO9.cut (by repeat (first | with_reducible apply Sub.cons | with_reducible exact Pick.here _ _ | with_reducible apply Pick.there | with_reducible apply Sub.base | with_reducible exact Keeps.here _ | with_reducible apply Keeps.skip))⟩
  case round =>
    clear hO9
    obtain ⟨i, rfl, hi', hO⟩ := hrel
    rename World => w5
    ((try clear hf); have hf := hO.facts; (try simp only [FX, Nat.zero_add, Nat.reduceAdd, and_true, true_and, List.map_cons, List.map_nil, List.cons_append, List.nil_append] at hf))
    by_cases hlt : i < SC.length
    · obtain ⟨b, off, rfl⟩ := rw_some (rowVals (hO.factOf (r := Row2 90 2 sa SC.length sc (SC.flatMap rwC)) (by repeat (first | with_reducible exact Pick.here _ _ | with_reducible apply Pick.there)))) hlt
      have hcy := fun w (h : ValsAt w (some ⟨b, off, none⟩) (SC.flatMap rwC)) => rw_cells h hlt
      obtain ⟨hr1, hr2⟩ := HSM.out _ (List.getElem_mem hlt)
      have HRD := vread_reads q nn V SC[i].key kk (fun e he => by have := HVL.out e he; omega)
      rw [hr1] at HRD
      have HH := fun w => hasB_any lo hi SC[i].key w
      rw [hr2] at HH
      clear hr1 hr2
      dsimp only at HRD
      cases i with
      | zero =>
        generalize SC[0] = r at *
        obtain ⟨rk, rv⟩ := r
        simp only [Nat.zero_mul, Nat.add_zero] at hcy
        dsimp only at hcy HRD HH
        go_wp2_with (first | ((first | with_reducible refine wpList_alloc_own hO ?_ | with_reducible refine wpList_drew_own hO ?_ | with_reducible refine wp_alloc_own hO ?_ | with_reducible refine wp_drew_own hO ?_ | with_reducible refine bodyPost_alloc_own hO ?_ | with_reducible refine bodyPost_drew_own hO ?_ | ((first | with_reducible apply wpList_set_own | with_reducible apply wp_set_own | with_reducible apply bodyPost_set_own); (focus (first | (with_reducible apply Own.set; (focus (with_reducible apply hO)); (repeat (first | with_reducible exact Put.here _ _ _ | with_reducible apply Put.there)); done) | (with_reducible apply Own.setRow; (focus (with_reducible apply hO)); (focus (repeat (first | with_reducible exact Put.here _ _ _ | with_reducible apply Put.there))); first | assumption | (simp; omega) | (simp; assumption)) | ((repeat' (first | with_reducible apply hO | with_reducible apply Own.set)); all_goals (repeat (first | with_reducible exact Put.here _ _ _ | with_reducible apply Put.there)); done))))); clear hO; intro w9 hO; (try dsimp only [List.set] at hO); ((try clear hf); have hf := hO.facts; (try simp only [FX, Nat.zero_add, Nat.reduceAdd, and_true, true_and, List.map_cons, List.map_nil, List.cons_append, List.nil_append] at hf))))
        (refine wp_region_run (fun _ => True) (fun _ _ _ _ => trivial) trivial ((1, 0) :: (0, 1) :: (0, 2) :: (0, 3) :: (0, 4) :: (1, 5) :: (1, 6) :: (3, 7) :: (0, 8) :: (0, 9) :: (0, 10) :: (0, 11) :: (0, 12) :: []) (by kernel_rfl) (by kernel_rfl) rfl (fun _ _ d _ _ h => by cases d <;> exact h) ?_; intro w9 hx9; replace hO := hO.ext hx9; clear hx9; ((try clear hf); have hf := hO.facts; (try simp only [FX, Nat.zero_add, Nat.reduceAdd, and_true, true_and, List.map_cons, List.map_nil, List.cons_append, List.nil_append] at hf)); (repeat (first | (apply inRun_p _ rfl rfl rfl; focus (intro w8 K8 hK8; (repeat (first | go_skip | go_guarded | go_step)); exact hK8)) | (apply inRun_l _ rfl rfl rfl; focus (intro w8 hx8 K8 hK8; have hO := hO.ext hx8; ((try clear hf); have hf := hO.facts; (try simp only [FX, Nat.zero_add, Nat.reduceAdd, and_true, true_and, List.map_cons, List.map_nil, List.cons_append, List.nil_append] at hf)); (obtain ⟨c0, c1⟩ := hcy _ (rowVals (hO.factOf (r := Row2 90 2 (some ⟨b, off, none⟩) SC.length sc (SC.flatMap rwC)) (by repeat (first | with_reducible exact Pick.here _ _ | with_reducible apply Pick.there))))); (repeat (first | go_skip | go_guarded | go_step)); exact hK8)) | (apply inRun_q _ rfl; (focus (intro w8 hx8 K8 hK8; have hO := hO.ext hx8; ((try clear hf); have hf := hO.facts; (try simp only [FX, Nat.zero_add, Nat.reduceAdd, and_true, true_and, List.map_cons, List.map_nil, List.cons_append, List.nil_append] at hf)); (repeat (first | go_skip | go_guarded | go_step | (go_at_call 32; (with_reducible refine Reads.use hO (HRD) (by repeat (first | with_reducible exact Takes.nil _ | with_reducible apply Takes.cons | with_reducible exact Pick.here _ _ | with_reducible apply Pick.there)) ?_; intro w7 hx7 hO7; clear hO7; dsimp only)))); (first | exact (by repeat (first | exact Ext.refl _ | assumption | refine Ext.of_drew ?_ | refine Ext.alloc ?_ _ | refine Ext.drew ?_ | refine Ext.trans ?_ (by assumption))) | exact hK8 _ (by repeat (first | exact Ext.refl _ | assumption | refine Ext.of_drew ?_ | refine Ext.alloc ?_ _ | refine Ext.drew ?_ | refine Ext.trans ?_ (by assumption)))))); (focus (exact rfl)); intro w8 hx8; replace hO := hO.ext hx8; clear hx8; ((try clear hf); have hf := hO.facts; (try simp only [FX, Nat.zero_add, Nat.reduceAdd, and_true, true_and, List.map_cons, List.map_nil, List.cons_append, List.nil_append] at hf))))))
        refine inRun_nil ?_
        go_wp2_with (first | ((first | with_reducible refine wpList_alloc_own hO ?_ | with_reducible refine wpList_drew_own hO ?_ | with_reducible refine wp_alloc_own hO ?_ | with_reducible refine wp_drew_own hO ?_ | with_reducible refine bodyPost_alloc_own hO ?_ | with_reducible refine bodyPost_drew_own hO ?_ | ((first | with_reducible apply wpList_set_own | with_reducible apply wp_set_own | with_reducible apply bodyPost_set_own); (focus (first | (with_reducible apply Own.set; (focus (with_reducible apply hO)); (repeat (first | with_reducible exact Put.here _ _ _ | with_reducible apply Put.there)); done) | (with_reducible apply Own.setRow; (focus (with_reducible apply hO)); (focus (repeat (first | with_reducible exact Put.here _ _ _ | with_reducible apply Put.there))); first | assumption | (simp; omega) | (simp; assumption)) | ((repeat' (first | with_reducible apply hO | with_reducible apply Own.set)); all_goals (repeat (first | with_reducible exact Put.here _ _ _ | with_reducible apply Put.there)); done))))); clear hO; intro w9 hO; (try dsimp only [List.set] at hO); ((try clear hf); have hf := hO.facts; (try simp only [FX, Nat.zero_add, Nat.reduceAdd, and_true, true_and, List.map_cons, List.map_nil, List.cons_append, List.nil_append] at hf))))
        (refine wp_region_run (fun _ => True) (fun _ _ _ _ => trivial) trivial ((0, 0) :: (0, 1) :: (0, 2) :: (0, 3) :: (0, 4) :: (0, 5) :: (0, 6) :: (0, 7) :: (1, 8) :: (0, 9) :: (0, 10) :: (0, 11) :: (1, 12) :: (0, 13) :: (0, 14) :: (0, 15) :: (0, 16) :: (1, 17) :: (3, 18) :: (0, 19) :: (0, 20) :: (0, 21) :: (0, 22) :: (0, 23) :: (0, 24) :: (0, 25) :: (0, 26) :: (0, 27) :: (0, 28) :: (1, 29) :: (0, 30) :: (0, 31) :: (0, 32) :: (0, 33) :: (0, 34) :: (1, 35) :: (0, 36) :: (0, 37) :: (0, 38) :: []) (by kernel_rfl) (by kernel_rfl) rfl (fun _ _ d _ _ h => by cases d <;> exact h) ?_; intro w9 hx9; replace hO := hO.ext hx9; clear hx9; ((try clear hf); have hf := hO.facts; (try simp only [FX, Nat.zero_add, Nat.reduceAdd, and_true, true_and, List.map_cons, List.map_nil, List.cons_append, List.nil_append] at hf)); (repeat (first | (apply inRun_p _ rfl rfl rfl; focus (intro w8 K8 hK8; (repeat (first | go_skip | go_guarded | go_step)); exact hK8)) | (apply inRun_l _ rfl rfl rfl; focus (intro w8 hx8 K8 hK8; have hO := hO.ext hx8; ((try clear hf); have hf := hO.facts; (try simp only [FX, Nat.zero_add, Nat.reduceAdd, and_true, true_and, List.map_cons, List.map_nil, List.cons_append, List.nil_append] at hf)); (obtain ⟨c0, c1⟩ := hcy _ (rowVals (hO.factOf (r := Row2 90 2 (some ⟨b, off, none⟩) SC.length sc (SC.flatMap rwC)) (by repeat (first | with_reducible exact Pick.here _ _ | with_reducible apply Pick.there))))); (repeat (first | go_skip | go_guarded | go_step)); exact hK8)) | (apply inRun_q _ rfl; (focus (intro w8 hx8 K8 hK8; have hO := hO.ext hx8; ((try clear hf); have hf := hO.facts; (try simp only [FX, Nat.zero_add, Nat.reduceAdd, and_true, true_and, List.map_cons, List.map_nil, List.cons_append, List.nil_append] at hf)); (repeat (first | go_skip | go_guarded | go_step | (go_at_call 54; (with_reducible refine Calls.mono (HH _) ?_; rintro e7 w7 ⟨rfl, hx7⟩; dsimp only)))); (first | exact (by repeat (first | exact Ext.refl _ | assumption | refine Ext.of_drew ?_ | refine Ext.alloc ?_ _ | refine Ext.drew ?_ | refine Ext.trans ?_ (by assumption))) | exact hK8 _ (by repeat (first | exact Ext.refl _ | assumption | refine Ext.of_drew ?_ | refine Ext.alloc ?_ _ | refine Ext.drew ?_ | refine Ext.trans ?_ (by assumption)))))); (focus (exact rfl)); intro w8 hx8; replace hO := hO.ext hx8; clear hx8; ((try clear hf); have hf := hO.facts; (try simp only [FX, Nat.zero_add, Nat.reduceAdd, and_true, true_and, List.map_cons, List.map_nil, List.cons_append, List.nil_append] at hf))))))
        refine inRun_nil ?_
        go_wp2_with (first | ((first | with_reducible refine wpList_alloc_own hO ?_ | with_reducible refine wpList_drew_own hO ?_ | with_reducible refine wp_alloc_own hO ?_ | with_reducible refine wp_drew_own hO ?_ | with_reducible refine bodyPost_alloc_own hO ?_ | with_reducible refine bodyPost_drew_own hO ?_ | ((first | with_reducible apply wpList_set_own | with_reducible apply wp_set_own | with_reducible apply bodyPost_set_own); (focus (first | (with_reducible apply Own.set; (focus (with_reducible apply hO)); (repeat (first | with_reducible exact Put.here _ _ _ | with_reducible apply Put.there)); done) | (with_reducible apply Own.setRow; (focus (with_reducible apply hO)); (focus (repeat (first | with_reducible exact Put.here _ _ _ | with_reducible apply Put.there))); first | assumption | (simp; omega) | (simp; assumption)) | ((repeat' (first | with_reducible apply hO | with_reducible apply Own.set)); all_goals (repeat (first | with_reducible exact Put.here _ _ _ | with_reducible apply Put.there)); done))))); clear hO; intro w9 hO; (try dsimp only [List.set] at hO); ((try clear hf); have hf := hO.facts; (try simp only [FX, Nat.zero_add, Nat.reduceAdd, and_true, true_and, List.map_cons, List.map_nil, List.cons_append, List.nil_append] at hf))))
        all_goals try (exfalso; simp_all; done)
        exact ⟨⟨1, rfl, by omega, hO.cut (by repeat (first | with_reducible apply Sub.cons | with_reducible exact Pick.here _ _ | with_reducible apply Pick.there | with_reducible apply Sub.base | with_reducible exact Keeps.here _ | with_reducible apply Keeps.skip))⟩, by simp [intOf]; omega⟩
      | succ j =>
        have hj : j < SC.length := by omega
        have hcx := fun w (h : ValsAt w (some ⟨b, off, none⟩) (SC.flatMap rwC)) => (rw_cells h hj).1
        have hst := List.pairwise_iff_getElem.1 HSU.out j (j + 1) hj hlt (by omega)
        generalize SC[j + 1] = r at *
        generalize SC[j] = y at *
        obtain ⟨rk, rv⟩ := r
        obtain ⟨yk, yv⟩ := y
        dsimp only at hcy hcx HRD HH hst
        have hle2 : (Op.bytesLess rk.toList yk.toList || rk.toList == yk.toList) = false := by rw [ble_eq, hst]; rfl
        have hs2 : Op.bytesLess rk.toList yk.toList = false := slt_asymm hst
        have hs3 : ¬ rk.toList = yk.toList := fun e => slt_ne hst (toList_inj e.symm)
        have hs4 : (rk.toList == yk.toList) = false := by simpa using hs3
        clear hst
        go_wp2_with (first | ((first | with_reducible refine wpList_alloc_own hO ?_ | with_reducible refine wpList_drew_own hO ?_ | with_reducible refine wp_alloc_own hO ?_ | with_reducible refine wp_drew_own hO ?_ | with_reducible refine bodyPost_alloc_own hO ?_ | with_reducible refine bodyPost_drew_own hO ?_ | ((first | with_reducible apply wpList_set_own | with_reducible apply wp_set_own | with_reducible apply bodyPost_set_own); (focus (first | (with_reducible apply Own.set; (focus (with_reducible apply hO)); (repeat (first | with_reducible exact Put.here _ _ _ | with_reducible apply Put.there)); done) | (with_reducible apply Own.setRow; (focus (with_reducible apply hO)); (focus (repeat (first | with_reducible exact Put.here _ _ _ | with_reducible apply Put.there))); first | assumption | (simp; omega) | (simp; assumption)) | ((repeat' (first | with_reducible apply hO | with_reducible apply Own.set)); all_goals (repeat (first | with_reducible exact Put.here _ _ _ | with_reducible apply Put.there)); done))))); clear hO; intro w9 hO; (try dsimp only [List.set] at hO); ((try clear hf); have hf := hO.facts; (try simp only [FX, Nat.zero_add, Nat.reduceAdd, and_true, true_and, List.map_cons, List.map_nil, List.cons_append, List.nil_append] at hf))))
        (refine wp_region_run (fun _ => True) (fun _ _ _ _ => trivial) trivial ((1, 0) :: (0, 1) :: (0, 2) :: (0, 3) :: (0, 4) :: (1, 5) :: (1, 6) :: (3, 7) :: (0, 8) :: (0, 9) :: (0, 10) :: (0, 11) :: (0, 12) :: []) (by kernel_rfl) (by kernel_rfl) rfl (fun _ _ d _ _ h => by cases d <;> exact h) ?_; intro w9 hx9; replace hO := hO.ext hx9; clear hx9; ((try clear hf); have hf := hO.facts; (try simp only [FX, Nat.zero_add, Nat.reduceAdd, and_true, true_and, List.map_cons, List.map_nil, List.cons_append, List.nil_append] at hf)); (repeat (first | (apply inRun_p _ rfl rfl rfl; focus (intro w8 K8 hK8; (repeat (first | go_skip | go_guarded | go_step)); exact hK8)) | (apply inRun_l _ rfl rfl rfl; focus (intro w8 hx8 K8 hK8; have hO := hO.ext hx8; ((try clear hf); have hf := hO.facts; (try simp only [FX, Nat.zero_add, Nat.reduceAdd, and_true, true_and, List.map_cons, List.map_nil, List.cons_append, List.nil_append] at hf)); (obtain ⟨c0, c1⟩ := hcy _ (rowVals (hO.factOf (r := Row2 90 2 (some ⟨b, off, none⟩) SC.length sc (SC.flatMap rwC)) (by repeat (first | with_reducible exact Pick.here _ _ | with_reducible apply Pick.there))))); (repeat (first | go_skip | go_guarded | go_step)); exact hK8)) | (apply inRun_q _ rfl; (focus (intro w8 hx8 K8 hK8; have hO := hO.ext hx8; ((try clear hf); have hf := hO.facts; (try simp only [FX, Nat.zero_add, Nat.reduceAdd, and_true, true_and, List.map_cons, List.map_nil, List.cons_append, List.nil_append] at hf)); (repeat (first | go_skip | go_guarded | go_step | (go_at_call 32; (with_reducible refine Reads.use hO (HRD) (by repeat (first | with_reducible exact Takes.nil _ | with_reducible apply Takes.cons | with_reducible exact Pick.here _ _ | with_reducible apply Pick.there)) ?_; intro w7 hx7 hO7; clear hO7; dsimp only)))); (first | exact (by repeat (first | exact Ext.refl _ | assumption | refine Ext.of_drew ?_ | refine Ext.alloc ?_ _ | refine Ext.drew ?_ | refine Ext.trans ?_ (by assumption))) | exact hK8 _ (by repeat (first | exact Ext.refl _ | assumption | refine Ext.of_drew ?_ | refine Ext.alloc ?_ _ | refine Ext.drew ?_ | refine Ext.trans ?_ (by assumption)))))); (focus (exact rfl)); intro w8 hx8; replace hO := hO.ext hx8; clear hx8; ((try clear hf); have hf := hO.facts; (try simp only [FX, Nat.zero_add, Nat.reduceAdd, and_true, true_and, List.map_cons, List.map_nil, List.cons_append, List.nil_append] at hf))))))
        refine inRun_nil ?_
        go_wp2_with (first | ((first | with_reducible refine wpList_alloc_own hO ?_ | with_reducible refine wpList_drew_own hO ?_ | with_reducible refine wp_alloc_own hO ?_ | with_reducible refine wp_drew_own hO ?_ | with_reducible refine bodyPost_alloc_own hO ?_ | with_reducible refine bodyPost_drew_own hO ?_ | ((first | with_reducible apply wpList_set_own | with_reducible apply wp_set_own | with_reducible apply bodyPost_set_own); (focus (first | (with_reducible apply Own.set; (focus (with_reducible apply hO)); (repeat (first | with_reducible exact Put.here _ _ _ | with_reducible apply Put.there)); done) | (with_reducible apply Own.setRow; (focus (with_reducible apply hO)); (focus (repeat (first | with_reducible exact Put.here _ _ _ | with_reducible apply Put.there))); first | assumption | (simp; omega) | (simp; assumption)) | ((repeat' (first | with_reducible apply hO | with_reducible apply Own.set)); all_goals (repeat (first | with_reducible exact Put.here _ _ _ | with_reducible apply Put.there)); done))))); clear hO; intro w9 hO; (try dsimp only [List.set] at hO); ((try clear hf); have hf := hO.facts; (try simp only [FX, Nat.zero_add, Nat.reduceAdd, and_true, true_and, List.map_cons, List.map_nil, List.cons_append, List.nil_append] at hf))))
        (refine wp_region_run (fun _ => True) (fun _ _ _ _ => trivial) trivial ((0, 0) :: (0, 1) :: (0, 2) :: (0, 3) :: (0, 4) :: (0, 5) :: (0, 6) :: (0, 7) :: (1, 8) :: (0, 9) :: (0, 10) :: (0, 11) :: (1, 12) :: (0, 13) :: (0, 14) :: (0, 15) :: (0, 16) :: (1, 17) :: (3, 18) :: (0, 19) :: (0, 20) :: (0, 21) :: (0, 22) :: (0, 23) :: (0, 24) :: (0, 25) :: (0, 26) :: (0, 27) :: (0, 28) :: (1, 29) :: (0, 30) :: (0, 31) :: (0, 32) :: (0, 33) :: (0, 34) :: (1, 35) :: (0, 36) :: (0, 37) :: (0, 38) :: []) (by kernel_rfl) (by kernel_rfl) rfl (fun _ _ d _ _ h => by cases d <;> exact h) ?_; intro w9 hx9; replace hO := hO.ext hx9; clear hx9; ((try clear hf); have hf := hO.facts; (try simp only [FX, Nat.zero_add, Nat.reduceAdd, and_true, true_and, List.map_cons, List.map_nil, List.cons_append, List.nil_append] at hf)); (repeat (first | (apply inRun_p _ rfl rfl rfl; focus (intro w8 K8 hK8; (repeat (first | go_skip | go_guarded | go_step)); exact hK8)) | (apply inRun_l _ rfl rfl rfl; focus (intro w8 hx8 K8 hK8; have hO := hO.ext hx8; ((try clear hf); have hf := hO.facts; (try simp only [FX, Nat.zero_add, Nat.reduceAdd, and_true, true_and, List.map_cons, List.map_nil, List.cons_append, List.nil_append] at hf)); (obtain ⟨c0, c1⟩ := hcy _ (rowVals (hO.factOf (r := Row2 90 2 (some ⟨b, off, none⟩) SC.length sc (SC.flatMap rwC)) (by repeat (first | with_reducible exact Pick.here _ _ | with_reducible apply Pick.there)))); have cx := hcx _ (rowVals (hO.factOf (r := Row2 90 2 (some ⟨b, off, none⟩) SC.length sc (SC.flatMap rwC)) (by repeat (first | with_reducible exact Pick.here _ _ | with_reducible apply Pick.there))))); (repeat (first | go_skip | go_guarded | go_step)); exact hK8)) | (apply inRun_q _ rfl; (focus (intro w8 hx8 K8 hK8; have hO := hO.ext hx8; ((try clear hf); have hf := hO.facts; (try simp only [FX, Nat.zero_add, Nat.reduceAdd, and_true, true_and, List.map_cons, List.map_nil, List.cons_append, List.nil_append] at hf)); (repeat (first | go_skip | go_guarded | go_step | (go_at_call 54; (with_reducible refine Calls.mono (HH _) ?_; rintro e7 w7 ⟨rfl, hx7⟩; dsimp only)))); (first | exact (by repeat (first | exact Ext.refl _ | assumption | refine Ext.of_drew ?_ | refine Ext.alloc ?_ _ | refine Ext.drew ?_ | refine Ext.trans ?_ (by assumption))) | exact hK8 _ (by repeat (first | exact Ext.refl _ | assumption | refine Ext.of_drew ?_ | refine Ext.alloc ?_ _ | refine Ext.drew ?_ | refine Ext.trans ?_ (by assumption)))))); (focus (exact rfl)); intro w8 hx8; replace hO := hO.ext hx8; clear hx8; ((try clear hf); have hf := hO.facts; (try simp only [FX, Nat.zero_add, Nat.reduceAdd, and_true, true_and, List.map_cons, List.map_nil, List.cons_append, List.nil_append] at hf))))))
        refine inRun_nil ?_
        go_wp2_with (first | ((first | with_reducible refine wpList_alloc_own hO ?_ | with_reducible refine wpList_drew_own hO ?_ | with_reducible refine wp_alloc_own hO ?_ | with_reducible refine wp_drew_own hO ?_ | with_reducible refine bodyPost_alloc_own hO ?_ | with_reducible refine bodyPost_drew_own hO ?_ | ((first | with_reducible apply wpList_set_own | with_reducible apply wp_set_own | with_reducible apply bodyPost_set_own); (focus (first | (with_reducible apply Own.set; (focus (with_reducible apply hO)); (repeat (first | with_reducible exact Put.here _ _ _ | with_reducible apply Put.there)); done) | (with_reducible apply Own.setRow; (focus (with_reducible apply hO)); (focus (repeat (first | with_reducible exact Put.here _ _ _ | with_reducible apply Put.there))); first | assumption | (simp; omega) | (simp; assumption)) | ((repeat' (first | with_reducible apply hO | with_reducible apply Own.set)); all_goals (repeat (first | with_reducible exact Put.here _ _ _ | with_reducible apply Put.there)); done))))); clear hO; intro w9 hO; (try dsimp only [List.set] at hO); ((try clear hf); have hf := hO.facts; (try simp only [FX, Nat.zero_add, Nat.reduceAdd, and_true, true_and, List.map_cons, List.map_nil, List.cons_append, List.nil_append] at hf))))
        all_goals try (exfalso; simp_all; done)
        exact ⟨⟨j + 1 + 1, by go_num, by omega, hO.cut (by repeat (first | with_reducible apply Sub.cons | with_reducible exact Pick.here _ _ | with_reducible apply Pick.there | with_reducible apply Sub.base | with_reducible exact Keeps.here _ | with_reducible apply Keeps.skip))⟩, by simp [intOf]; omega⟩
    · obtain rfl : i = SC.length := by omega
      go_wp2_with (first | ((with_reducible show wpList _ _ _ (Oper.mk _ (.makeMap _ _) _ _ _ _ :: _) _ _); (refine wpList_newE hO rfl rfl ?_; clear hO; intro b9 w9 hO; ((try clear hf); have hf := hO.facts; (try simp only [FX, Nat.zero_add, Nat.reduceAdd, and_true, true_and, List.map_cons, List.map_nil, List.cons_append, List.nil_append] at hf)))) | ((first | with_reducible refine wpList_alloc_own hO ?_ | with_reducible refine wpList_drew_own hO ?_ | with_reducible refine wp_alloc_own hO ?_ | with_reducible refine wp_drew_own hO ?_ | with_reducible refine bodyPost_alloc_own hO ?_ | with_reducible refine bodyPost_drew_own hO ?_ | ((first | with_reducible apply wpList_set_own | with_reducible apply wp_set_own | with_reducible apply bodyPost_set_own); (focus (first | (with_reducible apply Own.set; (focus (with_reducible apply hO)); (repeat (first | with_reducible exact Put.here _ _ _ | with_reducible apply Put.there)); done) | (with_reducible apply Own.setRow; (focus (with_reducible apply hO)); (focus (repeat (first | with_reducible exact Put.here _ _ _ | with_reducible apply Put.there))); first | assumption | (simp; omega) | (simp; assumption)) | ((repeat' (first | with_reducible apply hO | with_reducible apply Own.set)); all_goals (repeat (first | with_reducible exact Put.here _ _ _ | with_reducible apply Put.there)); done))))); clear hO; intro w9 hO; (try dsimp only [List.set] at hO); ((try clear hf); have hf := hO.facts; (try simp only [FX, Nat.zero_add, Nat.reduceAdd, and_true, true_and, List.map_cons, List.map_nil, List.cons_append, List.nil_append] at hf))))
      obtain ⟨gm, hg9⟩ := (hO.pick (r := Var _ [.int .i64 0] 3) (by repeat (first | with_reducible exact Pick.here _ _ | with_reducible apply Pick.there))).named
      rw [← hg9]; rw [← hg9, show (0 : Int) = ((0 : Nat) : Int) from rfl] at hO; clear hg9
      obtain ⟨gs, hg9⟩ := (hO.pick (r := Var _ [.map (some b9)] 92) (by repeat (first | with_reducible exact Pick.here _ _ | with_reducible apply Pick.there))).named
      rw [← hg9]; rw [← hg9] at hO; clear hg9
      have hO9 := hO
      clear hO hf
      generalize hF : (fun k => (readV V k kk).2 && hasB lo hi k) = F at HTOT
      have HFE := Lib.hid (fun k => show ((readV V k kk).2 && hasB lo hi k) = F k by rw [← hF])
      clear hF
      go_loopw [19] (fun v wr => ∃ (i many : Nat) (K : List ByteArray), v = .int .i64 i ∧ i ≤ n ∧ many ≤ i ∧ Hid (many + (distK F K ((rows.map Rw.key).drop i ++ dkeys D)).length = SC.length) ∧ Own (fun _ => False) W wr [SeenR b9 K, Var gv [.pointer (some ⟨q, 0, none⟩)] 53, Var gk [.int .i64 kk] 3, Var gs [.map (some b9)] 92, Var g [.string lo, .string hi] 67, VerR q nn V, Var gm [.int .i64 many] 3, .imm (TsArg ra rows da D)]) (fun v _ => n - (intOf v).toNat)
      case atStart =>
        refine ⟨0, 0, [], rfl, by omega, by omega, Lib.hid (by rw [List.drop_zero, Nat.zero_add]; exact HTOT.out), ?_⟩
        have hO := hO9.toPure (p := SeenOk [] []) SeenOk.nil
        refine Own.toEx (([] : List En), 0) (Own.pack ?_)
        dsimp only
        (try simp only [List.cons_append, List.nil_append])
        exact hO.cut (by repeat (first | with_reducible apply Sub.cons | with_reducible exact Pick.here _ _ | with_reducible apply Pick.there | with_reducible apply Sub.base | with_reducible exact Keeps.here _ | with_reducible apply Keeps.skip))
      case round =>
        clear hO9 HTOT HSU HSM
        obtain ⟨i, many, K, rfl, hi2, hmi, HI, hO⟩ := hrel
        rename World => w6
        ((try clear hf); have hf := hO.facts; (try simp only [FX, Nat.zero_add, Nat.reduceAdd, and_true, true_and, List.map_cons, List.map_nil, List.cons_append, List.nil_append] at hf))
        by_cases hlt2 : i < n
        · have hil : i < rows.length := by omega
          obtain ⟨b, off, rfl⟩ := rw_some ((Own.immOf (φ := TsArg ra rows da D) hO (by repeat (first | with_reducible exact Pick.here _ _ | with_reducible apply Pick.there))).2.1) hil
          have hcy := fun w (h : ValsAt w (some ⟨b, off, none⟩) (rows.flatMap rwC)) => (rw_cells h hil).1
          have hdr : (rows.map Rw.key).drop i = rows[i].key :: (rows.map Rw.key).drop (i + 1) := by rw [List.drop_eq_getElem_cons (by simpa using hil), List.getElem_map]
          have HI2 := Lib.hid (show cntA many (F rows[i].key && outB rows[i].key K) + (distK F (rows[i].key :: K) ((rows.map Rw.key).drop (i + 1) ++ dkeys D)).length = SC.length by rw [dist_step, ← HI.out, hdr]; rfl)
          have HCK := countK_does gv gk gs g gm q b9 nn kk V lo hi rows[i].key K many (by omega) (fun e he => by have := HVL.out e he; omega) (F rows[i].key && outB rows[i].key K) (by rw [← HFE.out])
          clear hdr HI
          have c0 := hcy _ (Own.immOf (φ := TsArg (some ⟨b, off, none⟩) rows da D) hO (by repeat (first | with_reducible exact Pick.here _ _ | with_reducible apply Pick.there))).2.1
          generalize rows[i].key = key at *
          have hcm : cntA many (F key && outB key K) ≤ i + 1 := by unfold cntA; split <;> omega
          generalize cntA many (F key && outB key K) = many' at *
          go_wp2_with (first | (go_at_call 55; (with_reducible apply Does.use hO (HCK); (focus (repeat (first | with_reducible exact Takes.nil _ | with_reducible apply Takes.cons | with_reducible exact Pick.here _ _ | with_reducible apply Pick.there))); clear hO; intro x9 w9 hO; dsimp only at hO ⊢; simp only [List.cons_append, List.nil_append] at hO; ((try clear hf); have hf := hO.facts; (try simp only [FX, Nat.zero_add, Nat.reduceAdd, and_true, true_and, List.map_cons, List.map_nil, List.cons_append, List.nil_append] at hf)))) | ((first | with_reducible refine wpList_alloc_own hO ?_ | with_reducible refine wpList_drew_own hO ?_ | with_reducible refine wp_alloc_own hO ?_ | with_reducible refine wp_drew_own hO ?_ | with_reducible refine bodyPost_alloc_own hO ?_ | with_reducible refine bodyPost_drew_own hO ?_ | ((first | with_reducible apply wpList_set_own | with_reducible apply wp_set_own | with_reducible apply bodyPost_set_own); (focus (first | (with_reducible apply Own.set; (focus (with_reducible apply hO)); (repeat (first | with_reducible exact Put.here _ _ _ | with_reducible apply Put.there)); done) | (with_reducible apply Own.setRow; (focus (with_reducible apply hO)); (focus (repeat (first | with_reducible exact Put.here _ _ _ | with_reducible apply Put.there))); first | assumption | (simp; omega) | (simp; assumption)) | ((repeat' (first | with_reducible apply hO | with_reducible apply Own.set)); all_goals (repeat (first | with_reducible exact Put.here _ _ _ | with_reducible apply Put.there)); done))))); clear hO; intro w9 hO; (try dsimp only [List.set] at hO); ((try clear hf); have hf := hO.facts; (try simp only [FX, Nat.zero_add, Nat.reduceAdd, and_true, true_and, List.map_cons, List.map_nil, List.cons_append, List.nil_append] at hf))))
          exact ⟨⟨i + 1, many', key :: K, by go_num, by omega, hcm, HI2, hO.cut (by repeat (first | with_reducible apply Sub.cons | with_reducible exact Pick.here _ _ | with_reducible apply Pick.there | with_reducible apply Sub.base | with_reducible exact Keeps.here _ | with_reducible apply Keeps.skip))⟩, by simp [intOf]; omega⟩
        · obtain rfl : i = n := by omega
          have hdr : (rows.map Rw.key).drop i = [] := List.drop_of_length_le (by rw [List.length_map]; omega)
          rw [hdr, List.nil_append] at HI
          have HI3 := Lib.hid (show many + (distK F K (dkeys (D.drop 0))).length = SC.length from HI.out)
          clear hdr HI
          go_wp2_with (first | ((first | with_reducible refine wpList_alloc_own hO ?_ | with_reducible refine wpList_drew_own hO ?_ | with_reducible refine wp_alloc_own hO ?_ | with_reducible refine wp_drew_own hO ?_ | with_reducible refine bodyPost_alloc_own hO ?_ | with_reducible refine bodyPost_drew_own hO ?_ | ((first | with_reducible apply wpList_set_own | with_reducible apply wp_set_own | with_reducible apply bodyPost_set_own); (focus (first | (with_reducible apply Own.set; (focus (with_reducible apply hO)); (repeat (first | with_reducible exact Put.here _ _ _ | with_reducible apply Put.there)); done) | (with_reducible apply Own.setRow; (focus (with_reducible apply hO)); (focus (repeat (first | with_reducible exact Put.here _ _ _ | with_reducible apply Put.there))); first | assumption | (simp; omega) | (simp; assumption)) | ((repeat' (first | with_reducible apply hO | with_reducible apply Own.set)); all_goals (repeat (first | with_reducible exact Put.here _ _ _ | with_reducible apply Put.there)); done))))); clear hO; intro w9 hO; (try dsimp only [List.set] at hO); ((try clear hf); have hf := hO.facts; (try simp only [FX, Nat.zero_add, Nat.reduceAdd, and_true, true_and, List.map_cons, List.map_nil, List.cons_append, List.nil_append] at hf))))
          have hO9 := hO
          clear hO hf
          go_loopw [20] (fun v wr => ∃ (j many : Nat) (K : List ByteArray), v = .int .i64 j ∧ j ≤ m ∧ many ≤ i + 14 * j ∧ Hid (many + (distK F K (dkeys (D.drop j))).length = SC.length) ∧ Own (fun _ => False) W wr [SeenR b9 K, Var gv [.pointer (some ⟨q, 0, none⟩)] 53, Var gk [.int .i64 kk] 3, Var gs [.map (some b9)] 92, Var g [.string lo, .string hi] 67, VerR q nn V, Var gm [.int .i64 many] 3, .imm (TsArg ra rows da D)]) (fun v _ => m - (intOf v).toNat)
          case atStart => exact ⟨0, many, K, rfl, by omega, by omega, HI3, hO9.cut (by repeat (first | with_reducible apply Sub.cons | with_reducible exact Pick.here _ _ | with_reducible apply Pick.there | with_reducible apply Sub.base | with_reducible exact Keeps.here _ | with_reducible apply Keeps.skip))⟩
          case round =>
            clear hO9 HI3
            obtain ⟨j, many, K, rfl, hj, hmj, HI, hO⟩ := hrel
            rename World => w7
            ((try clear hf); have hf := hO.facts; (try simp only [FX, Nat.zero_add, Nat.reduceAdd, and_true, true_and, List.map_cons, List.map_nil, List.cons_append, List.nil_append] at hf))
            by_cases hlt3 : j < m
            · have hjl : j < D.length := by omega
              obtain ⟨b, off, rfl⟩ := DIn.some ((Own.immOf (φ := TsArg ra rows da D) hO (by repeat (first | with_reducible exact Pick.here _ _ | with_reducible apply Pick.there))).2.2) (by omega)
              have hcell := fun w (h : TsArg ra rows (some ⟨b, off, none⟩) D w) => h.2.2.at hjl
              have hch := fun w (h : TsArg ra rows (some ⟨b, off, none⟩) D w) => h.2.2.1.2 _ (List.getElem_mem hjl)
              obtain ⟨hx14, _⟩ := HLC.out _ (List.getElem_mem hjl)
              have hdd : dkeys (D.drop j) = D[j].2.2.map Ch.key ++ dkeys (D.drop (j + 1)) := by rw [List.drop_eq_getElem_cons hjl]; unfold dkeys; rw [List.flatMap_cons]
              have HI3 := Lib.hid (show many + (distK F K ((D[j].2.2.map Ch.key).drop 0 ++ dkeys (D.drop (j + 1)))).length = SC.length by rw [List.drop_zero, ← hdd]; exact HI.out)
              clear hdd HI
              generalize D[j] = xd at *
              obtain ⟨xa, xc, xl⟩ := xd
              dsimp only [dv] at hcell hch hx14 HI3
              have cc := hcell _ (Own.immOf (φ := TsArg ra rows (some ⟨b, off, none⟩) D) hO (by repeat (first | with_reducible exact Pick.here _ _ | with_reducible apply Pick.there)))
              go_wp2_with (first | ((first | with_reducible refine wpList_alloc_own hO ?_ | with_reducible refine wpList_drew_own hO ?_ | with_reducible refine wp_alloc_own hO ?_ | with_reducible refine wp_drew_own hO ?_ | with_reducible refine bodyPost_alloc_own hO ?_ | with_reducible refine bodyPost_drew_own hO ?_ | ((first | with_reducible apply wpList_set_own | with_reducible apply wp_set_own | with_reducible apply bodyPost_set_own); (focus (first | (with_reducible apply Own.set; (focus (with_reducible apply hO)); (repeat (first | with_reducible exact Put.here _ _ _ | with_reducible apply Put.there)); done) | (with_reducible apply Own.setRow; (focus (with_reducible apply hO)); (focus (repeat (first | with_reducible exact Put.here _ _ _ | with_reducible apply Put.there))); first | assumption | (simp; omega) | (simp; assumption)) | ((repeat' (first | with_reducible apply hO | with_reducible apply Own.set)); all_goals (repeat (first | with_reducible exact Put.here _ _ _ | with_reducible apply Put.there)); done))))); clear hO; intro w9 hO; (try dsimp only [List.set] at hO); ((try clear hf); have hf := hO.facts; (try simp only [FX, Nat.zero_add, Nat.reduceAdd, and_true, true_and, List.map_cons, List.map_nil, List.cons_append, List.nil_append] at hf))))
              have hO9 := hO
              clear hO hf cc
              go_loopw [21] (fun v wr => ∃ (t many : Nat) (K : List ByteArray), v = .int .i64 t ∧ t ≤ xl.length ∧ many ≤ i + 14 * j + t ∧ Hid (many + (distK F K ((xl.map Ch.key).drop t ++ dkeys (D.drop (j + 1)))).length = SC.length) ∧ Own (fun _ => False) W wr [SeenR b9 K, Var gv [.pointer (some ⟨q, 0, none⟩)] 53, Var gk [.int .i64 kk] 3, Var gs [.map (some b9)] 92, Var g [.string lo, .string hi] 67, VerR q nn V, Var gm [.int .i64 many] 3, .imm (TsArg ra rows (some ⟨b, off, none⟩) D)]) (fun v _ => xl.length - (intOf v).toNat)
              case atStart => exact ⟨0, many, K, rfl, by omega, by omega, HI3, hO9.cut (by repeat (first | with_reducible apply Sub.cons | with_reducible exact Pick.here _ _ | with_reducible apply Pick.there | with_reducible apply Sub.base | with_reducible exact Keeps.here _ | with_reducible apply Keeps.skip))⟩
              case round =>
                clear hO9 HI3
                obtain ⟨t, many, K, rfl, ht, hmt, HI, hO⟩ := hrel
                rename World => w8
                ((try clear hf); have hf := hO.facts; (try simp only [FX, Nat.zero_add, Nat.reduceAdd, and_true, true_and, List.map_cons, List.map_nil, List.cons_append, List.nil_append] at hf))
                have cc := hcell _ (Own.immOf (φ := TsArg ra rows (some ⟨b, off, none⟩) D) hO (by repeat (first | with_reducible exact Pick.here _ _ | with_reducible apply Pick.there)))
                by_cases hlt4 : t < xl.length
                · obtain ⟨b4, o4, rfl⟩ := ChAt.some (hch _ (Own.immOf (φ := TsArg ra rows (some ⟨b, off, none⟩) D) hO (by repeat (first | with_reducible exact Pick.here _ _ | with_reducible apply Pick.there)))) (by omega)
                  have c0 := (ChAt.at (hch _ (Own.immOf (φ := TsArg ra rows (some ⟨b, off, none⟩) D) hO (by repeat (first | with_reducible exact Pick.here _ _ | with_reducible apply Pick.there)))) hlt4).1
                  have hdr : (xl.map Ch.key).drop t = xl[t].key :: (xl.map Ch.key).drop (t + 1) := by rw [List.drop_eq_getElem_cons (by simpa using hlt4), List.getElem_map]
                  have HI2 := Lib.hid (show cntA many (F xl[t].key && outB xl[t].key K) + (distK F (xl[t].key :: K) ((xl.map Ch.key).drop (t + 1) ++ dkeys (D.drop (j + 1)))).length = SC.length by rw [dist_step, ← HI.out, hdr]; rfl)
                  have HCK := countK_does gv gk gs g gm q b9 nn kk V lo hi xl[t].key K many (by omega) (fun e he => by have := HVL.out e he; omega) (F xl[t].key && outB xl[t].key K) (by rw [← HFE.out])
                  clear hdr HI
                  generalize xl[t].key = key at *
                  have hcm : cntA many (F key && outB key K) ≤ i + 14 * j + (t + 1) := by unfold cntA; split <;> omega
                  generalize cntA many (F key && outB key K) = many' at *
                  go_wp2_with (first | (go_at_call 55; (with_reducible apply Does.use hO (HCK); (focus (repeat (first | with_reducible exact Takes.nil _ | with_reducible apply Takes.cons | with_reducible exact Pick.here _ _ | with_reducible apply Pick.there))); clear hO; intro x9 w9 hO; dsimp only at hO ⊢; simp only [List.cons_append, List.nil_append] at hO; ((try clear hf); have hf := hO.facts; (try simp only [FX, Nat.zero_add, Nat.reduceAdd, and_true, true_and, List.map_cons, List.map_nil, List.cons_append, List.nil_append] at hf)))) | ((first | with_reducible refine wpList_alloc_own hO ?_ | with_reducible refine wpList_drew_own hO ?_ | with_reducible refine wp_alloc_own hO ?_ | with_reducible refine wp_drew_own hO ?_ | with_reducible refine bodyPost_alloc_own hO ?_ | with_reducible refine bodyPost_drew_own hO ?_ | ((first | with_reducible apply wpList_set_own | with_reducible apply wp_set_own | with_reducible apply bodyPost_set_own); (focus (first | (with_reducible apply Own.set; (focus (with_reducible apply hO)); (repeat (first | with_reducible exact Put.here _ _ _ | with_reducible apply Put.there)); done) | (with_reducible apply Own.setRow; (focus (with_reducible apply hO)); (focus (repeat (first | with_reducible exact Put.here _ _ _ | with_reducible apply Put.there))); first | assumption | (simp; omega) | (simp; assumption)) | ((repeat' (first | with_reducible apply hO | with_reducible apply Own.set)); all_goals (repeat (first | with_reducible exact Put.here _ _ _ | with_reducible apply Put.there)); done))))); clear hO; intro w9 hO; (try dsimp only [List.set] at hO); ((try clear hf); have hf := hO.facts; (try simp only [FX, Nat.zero_add, Nat.reduceAdd, and_true, true_and, List.map_cons, List.map_nil, List.cons_append, List.nil_append] at hf))))
                  exact ⟨⟨t + 1, many', key :: K, by go_num, by omega, hcm, HI2, hO.cut (by repeat (first | with_reducible apply Sub.cons | with_reducible exact Pick.here _ _ | with_reducible apply Pick.there | with_reducible apply Sub.base | with_reducible exact Keeps.here _ | with_reducible apply Keeps.skip))⟩, by simp [intOf]; omega⟩
                · obtain rfl : t = xl.length := by omega
                  have hdr : (xl.map Ch.key).drop xl.length = [] := List.drop_of_length_le (by rw [List.length_map]; exact Nat.le_refl _)
                  rw [hdr, List.nil_append] at HI
                  clear hdr
                  go_wp2_with (first | ((first | with_reducible refine wpList_alloc_own hO ?_ | with_reducible refine wpList_drew_own hO ?_ | with_reducible refine wp_alloc_own hO ?_ | with_reducible refine wp_drew_own hO ?_ | with_reducible refine bodyPost_alloc_own hO ?_ | with_reducible refine bodyPost_drew_own hO ?_ | ((first | with_reducible apply wpList_set_own | with_reducible apply wp_set_own | with_reducible apply bodyPost_set_own); (focus (first | (with_reducible apply Own.set; (focus (with_reducible apply hO)); (repeat (first | with_reducible exact Put.here _ _ _ | with_reducible apply Put.there)); done) | (with_reducible apply Own.setRow; (focus (with_reducible apply hO)); (focus (repeat (first | with_reducible exact Put.here _ _ _ | with_reducible apply Put.there))); first | assumption | (simp; omega) | (simp; assumption)) | ((repeat' (first | with_reducible apply hO | with_reducible apply Own.set)); all_goals (repeat (first | with_reducible exact Put.here _ _ _ | with_reducible apply Put.there)); done))))); clear hO; intro w9 hO; (try dsimp only [List.set] at hO); ((try clear hf); have hf := hO.facts; (try simp only [FX, Nat.zero_add, Nat.reduceAdd, and_true, true_and, List.map_cons, List.map_nil, List.cons_append, List.nil_append] at hf))))
                  exact ⟨⟨j + 1, many, K, by go_num, by omega, by omega, HI, hO.cut (by repeat (first | with_reducible apply Sub.cons | with_reducible exact Pick.here _ _ | with_reducible apply Pick.there | with_reducible apply Sub.base | with_reducible exact Keeps.here _ | with_reducible apply Keeps.skip))⟩, by simp [intOf]; omega⟩
            · obtain rfl : j = m := by omega
              have hdd : D.drop j = [] := List.drop_of_length_le (by omega)
              rw [hdd] at HI
              have hfin : many = SC.length := HI.out
              subst hfin
              clear HI hdd
              go_wp2_with (first | ((first | with_reducible refine wpList_alloc_own hO ?_ | with_reducible refine wpList_drew_own hO ?_ | with_reducible refine wp_alloc_own hO ?_ | with_reducible refine wp_drew_own hO ?_ | with_reducible refine bodyPost_alloc_own hO ?_ | with_reducible refine bodyPost_drew_own hO ?_ | ((first | with_reducible apply wpList_set_own | with_reducible apply wp_set_own | with_reducible apply bodyPost_set_own); (focus (first | (with_reducible apply Own.set; (focus (with_reducible apply hO)); (repeat (first | with_reducible exact Put.here _ _ _ | with_reducible apply Put.there)); done) | (with_reducible apply Own.setRow; (focus (with_reducible apply hO)); (focus (repeat (first | with_reducible exact Put.here _ _ _ | with_reducible apply Put.there))); first | assumption | (simp; omega) | (simp; assumption)) | ((repeat' (first | with_reducible apply hO | with_reducible apply Own.set)); all_goals (repeat (first | with_reducible exact Put.here _ _ _ | with_reducible apply Put.there)); done))))); clear hO; intro w9 hO; (try dsimp only [List.set] at hO); ((try clear hf); have hf := hO.facts; (try simp only [FX, Nat.zero_add, Nat.reduceAdd, and_true, true_and, List.map_cons, List.map_nil, List.cons_append, List.nil_append] at hf))))
              go_ret
              exact ⟨rfl, hO.toExt⟩
end Go.Proofs.YtpdnlgopbnkdhaaDoor
