/- Texts VersionsSays of this claim, laid together. -/
import Derived.Test.YtpdnlgopbnkdhaaDoorGVersionsSaysProof30
import Derived.Test.YtpdnlgopbnkdhaaDoorGVersionsSaysProof12
import Derived.Test.YtpdnlgopbnkdhaaDoorGVersionsSaysProof3
set_option linter.unusedVariables false
set_option linter.unusedSimpArgs false
namespace Go.Proofs.YtpdnlgopbnkdhaaDoor
open Go.RowKit
theorem deed_le : ∀ (l : List Ch) (p : Option ByteArray), deedFrom p l ≤ 3
  | [], p => by unfold deedFrom; exact Nat.zero_le _
  | c :: l, p => by
    have h1 := chN_le c
    have h2 := deed_le l (some c.key)
    unfold deedFrom
    by_cases hc : chN c ≠ 0
    · rw [if_pos hc]; omega
    · rw [if_neg hc]
      cases p with
      | none => exact h2
      | some k =>
        show (if (!slt k c.key) = true then 3 else deedFrom (some c.key) l) ≤ 3
        split
        · exact Nat.le_refl _
        · exact h2
abbrev RV := Option Addr × Nat × List Rw
def rv (d : RV) : Value := .slice d.1 d.2.2.length d.2.1
def RsAt (w : World) (D : List RV) : Prop := ∀ d ∈ D, ValsAt w d.1 (d.2.2.flatMap rwC)
def rss (D : List RV) : List (List Rw) := D.map fun d => d.2.2
theorem row_vals {w : World} {e : TypeId} {size n c : Nat} {a : Option Addr} {xs : List Value} (h : (Row2 e size a n c xs).facts w) : ValsAt w a xs := h.1
theorem Own.rowIm {S : Nat → Prop} {W w : World} {l l' : List Rs} {e : TypeId} {size : Nat} {a : Option Addr} {n c : Nat} {xs : List Value} (h : Own S W w l) (hp : Pick l (Row2 e size a n c xs) l') : Own S W w (.imm (fun w => ValsAt w a xs) :: l') :=
  Own.toImm (r := Row2 e size a n c xs) (φ := fun w => ValsAt w a xs) (fun w h => h.1) (h.pick hp)
theorem Own.rsAdd {S : Nat → Prop} {W w : World} {l l' : List Rs} {a : Option Addr} {c : Nat} {O : List Rw} {D : List RV} (h : Own S W w l) (ht : Takes l [.imm (fun w => RsAt w D), .imm (fun w => ValsAt w a (O.flatMap rwC))] l') : Own S W w (.imm (fun w => RsAt w (D ++ [(a, c, O)])) :: l') := by
  have h1 := h.take ht
  simp only [List.cons_append, List.nil_append] at h1
  exact h1.and.imp fun w ⟨h4, h5⟩ d hd => by
    rcases List.mem_append.1 hd with hd | hd
    · exact h4 d hd
    · rw [List.mem_singleton.1 hd]; exact h5
set_option maxHeartbeats 1000000 in
set_option maxRecDepth 100000 in
theorem vnow_reads (p nn : Nat) (V : List (ByteArray × List Vn)) : Reads Tryd.prog 37 #[.pointer (some ⟨p, 0, none⟩)] [VerR p nn V] (.int .i64 nn) := by
  intro w L0 hO; simp only [List.map_cons, List.map_nil, List.cons_append, List.nil_append] at hO; obtain ⟨⟨b, clock, L⟩, hO⟩ := hO.frzEx; replace hO := hO.frzMany; dsimp only at hO; simp only [List.map_cons, List.map_nil, List.cons_append, List.nil_append] at hO; ((try clear hf); have hf := hO.facts; (try simp only [FX, Nat.zero_add, Nat.reduceAdd, and_true, true_and, List.map_cons, List.map_nil, List.cons_append, List.nil_append] at hf))
  go_enter Tryd.func37, Tryd.ntmps37
  go_wp2_with (first | ((first | with_reducible refine wpList_alloc_own hO ?_ | with_reducible refine wpList_drew_own hO ?_ | with_reducible refine wp_alloc_own hO ?_ | with_reducible refine wp_drew_own hO ?_ | with_reducible refine bodyPost_alloc_own hO ?_ | with_reducible refine bodyPost_drew_own hO ?_ | ((first | with_reducible apply wpList_set_own | with_reducible apply wp_set_own | with_reducible apply bodyPost_set_own); (focus (first | (with_reducible apply Own.set; (focus (with_reducible apply hO)); (repeat (first | with_reducible exact Put.here _ _ _ | with_reducible apply Put.there)); done) | (with_reducible apply Own.setRow; (focus (with_reducible apply hO)); (focus (repeat (first | with_reducible exact Put.here _ _ _ | with_reducible apply Put.there))); first | assumption | (simp; omega) | (simp; assumption)) | ((repeat' (first | with_reducible apply hO | with_reducible apply Own.set)); all_goals (repeat (first | with_reducible exact Put.here _ _ _ | with_reducible apply Put.there)); done))))); clear hO; intro w9 hO; (try dsimp only [List.set] at hO); ((try clear hf); have hf := hO.facts; (try simp only [FX, Nat.zero_add, Nat.reduceAdd, and_true, true_and, List.map_cons, List.map_nil, List.cons_append, List.nil_append] at hf))))
  go_ret
  exact ⟨rfl, hO.toExt⟩
/-- What the law is handed. -/
def VsArg (ra : Option Addr) (rows : List Rw) (aa : Option Addr) (l : List Ac) (w : World) : Prop := LibOk w ∧ ValsAt w ra (rows.flatMap rwC) ∧ ActsAt w aa l
theorem VsArg.base {ra : Option Addr} {rows : List Rw} {aa : Option Addr} {l : List Ac} {w : World} (h : VsArg ra rows aa l w) : Own (fun _ => False) w w [.imm (VsArg ra rows aa l)] :=
  Own.base w _ fun w' hw' => ⟨h.1.up hw', vals_up h.2.1 hw', h.2.2.up (agree_up hw')⟩
/-- What is known between two acts. -/
structure VsInv (j nn frm : Nat) (V : List (ByteArray × List Vn)) (D : List RV) : Prop where
  past : Past nn frm V (rss D)
  now : nn ≤ j
  cnt : cntV V ≤ 50 + 20 * j
  len : V.length ≤ 50 + 20 * j
  rows : ∀ d ∈ D, d.2.2.length ≤ 50 + 20 * j
theorem VsInv.more {j nn frm : Nat} {V : List (ByteArray × List Vn)} {D : List RV} (h : VsInv j nn frm V D) : VsInv (j + 1) nn frm V D :=
  ⟨h.past, by have := h.now; omega, by have := h.cnt; omega, by have := h.len; omega, fun d hd => by have := h.rows d hd; omega⟩
theorem VsInv.dlen {j nn frm : Nat} {V : List (ByteArray × List Vn)} {D : List RV} (h : VsInv j nn frm V D) : D.length = nn + 1 := by
  have := h.past.len
  unfold rss at this
  rwa [List.length_map] at this
theorem rss_get {D : List RV} {i : Nat} (h : i < D.length) : (rss D)[i]'(by unfold rss; simpa using h) = D[i].2.2 := by unfold rss; rw [List.getElem_map]
theorem VsInv.vlen {j nn frm : Nat} {V : List (ByteArray × List Vn)} {D : List RV} (h : VsInv j nn frm V D) : ∀ e ∈ V, e.2.length ≤ 50 + 20 * j := fun e he => Nat.le_trans (cnt_mem he) h.cnt
theorem VsInv.commit {j nn frm : Nat} {V : List (ByteArray × List Vn)} {D : List RV} (h : VsInv j nn frm V D) {C : List Ch} (hd : deedN C = 0) (hC : C.length ≤ 20) (hl : nn < D.length) (a : Option Addr) (c : Nat) : VsInv (j + 1) (nn + 1) frm (commitV nn C V) (D ++ [(a, c, C.foldl appR D[nn].2.2)]) where
  past := by
    have h1 := h.past.commit hd (by unfold rss; simpa using hl)
    rw [rss_get hl] at h1
    unfold rss at h1 ⊢
    rw [List.map_append]
    exact h1
  now := by have := h.now; omega
  cnt := by have := (commit_len nn C V).2; have := h.cnt; omega
  len := by have := (commit_len nn C V).1; have := h.len; omega
  rows := fun d hd => by
    rcases List.mem_append.1 hd with hd | hd
    · have := h.rows d hd; omega
    · rw [List.mem_singleton.1 hd]
      have h1 := apps_len C D[nn].2.2
      have h2 := h.rows _ (List.getElem_mem hl)
      show (C.foldl appR D[nn].2.2).length ≤ _
      omega
theorem VsInv.vac {j nn frm : Nat} {V : List (ByteArray × List Vn)} {D : List RV} (h : VsInv j nn frm V D) (n : Int) (frm' : Nat) (hf : (frm' : Int) = max (frm : Int) (min n nn)) : VsInv (j + 1) nn frm' (vacV n V) D where
  past := h.past.vac n frm' hf
  now := by have := h.now; omega
  cnt := by have := cnt_vac n V; have := h.cnt; omega
  len := by have := vacV_len n V; have := h.len; omega
  rows := fun d hd => by have := h.rows d hd; omega
theorem VsInv.new {rows : List Rw} (h : RUps rows) (hl : rows.length ≤ 50) (a : Option Addr) (c : Nat) : VsInv 0 0 0 (newV rows) [(a, c, rows)] where
  past := Past.new h
  now := Nat.le_refl _
  cnt := by rw [cnt_new]; omega
  len := by unfold newV; rw [List.length_map]; omega
  rows := fun d hd => by rw [List.mem_singleton.1 hd]; exact hl
theorem Tryd.infoRs : (Tryd.prog.info? 51).map (fun i => (i.zero, i.size, i.bytes)) = some (some (.slice none 0 0), 1, 24) := by kernel_rfl
theorem Own.both {S : Nat → Prop} {W w : World} {l l' : List Rs} {φ ψ : World → Prop} (h : Own S W w l) (ht : Takes l [.imm φ, .imm ψ] l') : Own S W w (.imm (fun w => φ w ∧ ψ w) :: .imm φ :: .imm ψ :: l') := by
  have h1 := h.take ht
  simp only [List.cons_append, List.nil_append] at h1
  have h2 := h1.and.again.imp (ψ := ψ) fun _ h => h.2
  have h3 := (h2.pick (.there _ (.here _ _))).again.imp (ψ := φ) fun _ h => h.1
  exact (h3.pick (.there _ (.here _ _)))
set_option maxHeartbeats 4000000 in
set_option maxRecDepth 100000 in
theorem versionsSays_any (ra : Option Addr) (n rc : Nat) (rows : List Rw) (aa : Option Addr) (m ac : Nat) (l : List Ac) (W : World) (hφ : VsArg ra rows aa l W) (hrl : rows.length = n) (hll : l.length = m)
    (hn : n ≤ 9223372036854775807) (hm : m ≤ 9223372036854775807) :
    Calls Tryd.prog 4 #[.slice ra n rc, .slice aa m ac] W fun e w' => e = .returned (.bool true) ∧ Ext W w' := by
  have hO := (hφ.base.again).imp (ψ := LibOk) fun _ h => h.1
  have HE := fun w (h : VsArg ra rows aa l w) => elder_any w h.1
  have HL : ∀ w, VsArg ra rows aa l w → Calls Tryd.prog 11 #[.slice aa m ac, .int .i64 40] w fun e w' => e = .returned (.bool (lightActs l 40)) ∧ w' = w := fun w hA => by
    subst hll; exact lightActs_any aa ac l 40 w (by unfold maxLen; omega) (by omega) hA.2.2
  have HG := fun w (h : VsArg ra rows aa l w) => goodRows_any ra n rc rows hrl hn w h.2.1
  cases hli : lightActs l 40 with
  | false =>
    rw [hli] at HL
    go_enter Tryd.func4, Tryd.ntmps4
    go_wp2_with (first | (go_at_call 24; (with_reducible apply Calls.mono (HE _ (Own.immOf (φ := VsArg ra rows aa l) hO (by repeat (first | with_reducible exact Pick.here _ _ | with_reducible apply Pick.there)))); rintro e8 w8 ⟨rfl, hx8⟩; replace hO := hO.ext hx8; clear hx8; dsimp only; ((try clear hf); have hf := hO.facts; (try simp only [FX, Nat.zero_add, Nat.reduceAdd, and_true, true_and, List.map_cons, List.map_nil, List.cons_append, List.nil_append] at hf)))) | (go_at_call 11; (with_reducible apply Calls.mono (HL _ (Own.immOf (φ := VsArg ra rows aa l) hO (by repeat (first | with_reducible exact Pick.here _ _ | with_reducible apply Pick.there)))); rintro e8 w8 ⟨rfl, rfl⟩; dsimp only)) | (go_at_call 25; (with_reducible apply Calls.mono (HG _ (Own.immOf (φ := VsArg ra rows aa l) hO (by repeat (first | with_reducible exact Pick.here _ _ | with_reducible apply Pick.there)))); rintro e8 w8 ⟨rfl, hx8⟩; replace hO := hO.ext hx8; clear hx8; dsimp only; ((try clear hf); have hf := hO.facts; (try simp only [FX, Nat.zero_add, Nat.reduceAdd, and_true, true_and, List.map_cons, List.map_nil, List.cons_append, List.nil_append] at hf)))) | ((first | with_reducible refine wpList_alloc_own hO ?_ | with_reducible refine wpList_drew_own hO ?_ | with_reducible refine wp_alloc_own hO ?_ | with_reducible refine wp_drew_own hO ?_ | with_reducible refine bodyPost_alloc_own hO ?_ | with_reducible refine bodyPost_drew_own hO ?_ | ((first | with_reducible apply wpList_set_own | with_reducible apply wp_set_own | with_reducible apply bodyPost_set_own); (focus (first | (with_reducible apply Own.set; (focus (with_reducible apply hO)); (repeat (first | with_reducible exact Put.here _ _ _ | with_reducible apply Put.there)); done) | (with_reducible apply Own.setRow; (focus (with_reducible apply hO)); (focus (repeat (first | with_reducible exact Put.here _ _ _ | with_reducible apply Put.there))); first | assumption | (simp; omega) | (simp; assumption)) | ((repeat' (first | with_reducible apply hO | with_reducible apply Own.set)); all_goals (repeat (first | with_reducible exact Put.here _ _ _ | with_reducible apply Put.there)); done))))); clear hO; intro w9 hO; (try dsimp only [List.set] at hO); ((try clear hf); have hf := hO.facts; (try simp only [FX, Nat.zero_add, Nat.reduceAdd, and_true, true_and, List.map_cons, List.map_nil, List.cons_append, List.nil_append] at hf))))
    all_goals first | (exfalso; omega; done) | (go_ret; exact ⟨rfl, hO.toExt⟩)
  | true =>
    rw [hli] at HL
    have hm40 : m ≤ 40 := by have := lightActs_len hli; omega
    cases hgr : goodR rows with
    | false =>
      rw [hgr] at HG
      go_enter Tryd.func4, Tryd.ntmps4
      go_wp2_with (first | (go_at_call 24; (with_reducible apply Calls.mono (HE _ (Own.immOf (φ := VsArg ra rows aa l) hO (by repeat (first | with_reducible exact Pick.here _ _ | with_reducible apply Pick.there)))); rintro e8 w8 ⟨rfl, hx8⟩; replace hO := hO.ext hx8; clear hx8; dsimp only; ((try clear hf); have hf := hO.facts; (try simp only [FX, Nat.zero_add, Nat.reduceAdd, and_true, true_and, List.map_cons, List.map_nil, List.cons_append, List.nil_append] at hf)))) | (go_at_call 11; (with_reducible apply Calls.mono (HL _ (Own.immOf (φ := VsArg ra rows aa l) hO (by repeat (first | with_reducible exact Pick.here _ _ | with_reducible apply Pick.there)))); rintro e8 w8 ⟨rfl, rfl⟩; dsimp only)) | (go_at_call 25; (with_reducible apply Calls.mono (HG _ (Own.immOf (φ := VsArg ra rows aa l) hO (by repeat (first | with_reducible exact Pick.here _ _ | with_reducible apply Pick.there)))); rintro e8 w8 ⟨rfl, hx8⟩; replace hO := hO.ext hx8; clear hx8; dsimp only; ((try clear hf); have hf := hO.facts; (try simp only [FX, Nat.zero_add, Nat.reduceAdd, and_true, true_and, List.map_cons, List.map_nil, List.cons_append, List.nil_append] at hf)))) | ((first | with_reducible refine wpList_alloc_own hO ?_ | with_reducible refine wpList_drew_own hO ?_ | with_reducible refine wp_alloc_own hO ?_ | with_reducible refine wp_drew_own hO ?_ | with_reducible refine bodyPost_alloc_own hO ?_ | with_reducible refine bodyPost_drew_own hO ?_ | ((first | with_reducible apply wpList_set_own | with_reducible apply wp_set_own | with_reducible apply bodyPost_set_own); (focus (first | (with_reducible apply Own.set; (focus (with_reducible apply hO)); (repeat (first | with_reducible exact Put.here _ _ _ | with_reducible apply Put.there)); done) | (with_reducible apply Own.setRow; (focus (with_reducible apply hO)); (focus (repeat (first | with_reducible exact Put.here _ _ _ | with_reducible apply Put.there))); first | assumption | (simp; omega) | (simp; assumption)) | ((repeat' (first | with_reducible apply hO | with_reducible apply Own.set)); all_goals (repeat (first | with_reducible exact Put.here _ _ _ | with_reducible apply Put.there)); done))))); clear hO; intro w9 hO; (try dsimp only [List.set] at hO); ((try clear hf); have hf := hO.facts; (try simp only [FX, Nat.zero_add, Nat.reduceAdd, and_true, true_and, List.map_cons, List.map_nil, List.cons_append, List.nil_append] at hf))))
      all_goals first | (exfalso; omega; done) | (go_ret; exact ⟨rfl, hO.toExt⟩)
    | true =>
      rw [hgr] at HG
      obtain ⟨h50, hup, _⟩ := goodR_ok hgr
      have HN := vnew_does ra n rc rows hrl (by omega) hup.keys
      have HI0 := Lib.hid (VsInv.new hup h50 ra rc)
      clear hgr
      replace hO := (hO.pick (r := .imm (VsArg ra rows aa l)) (by repeat (first | with_reducible exact Pick.here _ _ | with_reducible apply Pick.there))).again.imp (ψ := fun w => ValsAt w ra (rows.flatMap rwC)) fun _ h => h.2.1
      go_enter Tryd.func4, Tryd.ntmps4
      go_wp2_with (first | (go_at_call 24; (with_reducible apply Calls.mono (HE _ (Own.immOf (φ := VsArg ra rows aa l) hO (by repeat (first | with_reducible exact Pick.here _ _ | with_reducible apply Pick.there)))); rintro e8 w8 ⟨rfl, hx8⟩; replace hO := hO.ext hx8; clear hx8; dsimp only; ((try clear hf); have hf := hO.facts; (try simp only [FX, Nat.zero_add, Nat.reduceAdd, and_true, true_and, List.map_cons, List.map_nil, List.cons_append, List.nil_append] at hf)))) | (go_at_call 11; (with_reducible apply Calls.mono (HL _ (Own.immOf (φ := VsArg ra rows aa l) hO (by repeat (first | with_reducible exact Pick.here _ _ | with_reducible apply Pick.there)))); rintro e8 w8 ⟨rfl, rfl⟩; dsimp only)) | (go_at_call 25; (with_reducible apply Calls.mono (HG _ (Own.immOf (φ := VsArg ra rows aa l) hO (by repeat (first | with_reducible exact Pick.here _ _ | with_reducible apply Pick.there)))); rintro e8 w8 ⟨rfl, hx8⟩; replace hO := hO.ext hx8; clear hx8; dsimp only; ((try clear hf); have hf := hO.facts; (try simp only [FX, Nat.zero_add, Nat.reduceAdd, and_true, true_and, List.map_cons, List.map_nil, List.cons_append, List.nil_append] at hf)))) | (go_at_call 26; (with_reducible apply Does.use hO (HN); (focus (repeat (first | with_reducible exact Takes.nil _ | with_reducible apply Takes.cons | with_reducible exact Pick.here _ _ | with_reducible apply Pick.there))); clear hO; intro x9 w9 hO; dsimp only at hO ⊢; simp only [List.cons_append, List.nil_append] at hO; ((try clear hf); have hf := hO.facts; (try simp only [FX, Nat.zero_add, Nat.reduceAdd, and_true, true_and, List.map_cons, List.map_nil, List.cons_append, List.nil_append] at hf)); rename Nat => p)) | ((first | with_reducible refine wpList_alloc_own hO ?_ | with_reducible refine wpList_drew_own hO ?_ | with_reducible refine wp_alloc_own hO ?_ | with_reducible refine wp_drew_own hO ?_ | with_reducible refine bodyPost_alloc_own hO ?_ | with_reducible refine bodyPost_drew_own hO ?_ | ((first | with_reducible apply wpList_set_own | with_reducible apply wp_set_own | with_reducible apply bodyPost_set_own); (focus (first | (with_reducible apply Own.set; (focus (with_reducible apply hO)); (repeat (first | with_reducible exact Put.here _ _ _ | with_reducible apply Put.there)); done) | (with_reducible apply Own.setRow; (focus (with_reducible apply hO)); (focus (repeat (first | with_reducible exact Put.here _ _ _ | with_reducible apply Put.there))); first | assumption | (simp; omega) | (simp; assumption)) | ((repeat' (first | with_reducible apply hO | with_reducible apply Own.set)); all_goals (repeat (first | with_reducible exact Put.here _ _ _ | with_reducible apply Put.there)); done))))); clear hO; intro w9 hO; (try dsimp only [List.set] at hO); ((try clear hf); have hf := hO.facts; (try simp only [FX, Nat.zero_add, Nat.reduceAdd, and_true, true_and, List.map_cons, List.map_nil, List.cons_append, List.nil_append] at hf))))
      rename Nat => p
      subst hrl
      have hO := Own.varRow (size := 1) (n := 1) rfl (by decide) (hO.pick (r := Var _ [.slice ra rows.length rc] 51) (by repeat (first | with_reducible exact Pick.here _ _ | with_reducible apply Pick.there)))
      have hO := (hO.pick (r := .imm fun w => ValsAt w ra (rows.flatMap rwC)) (by repeat (first | with_reducible exact Pick.here _ _ | with_reducible apply Pick.there))).imp (ψ := fun w => RsAt w [(ra, rc, rows)]) (fun w h d hd => by rw [List.mem_singleton.1 hd]; exact h)
      have hO9 := hO
      clear hO hf HN
      go_loopw [7, 8, 9] (fun v7 v8 v9 wr => ∃ (j nn frm pc : Nat) (pa : Option Addr) (D : List RV) (V : List (ByteArray × List Vn)), v7 = .slice pa (nn + 1) pc ∧ v8 = .int .i64 frm ∧ v9 = .int .i64 j ∧ j ≤ m ∧ Hid (VsInv j nn frm V D) ∧
        Own (fun _ => False) W wr [VerR p nn V, Row2 51 1 pa (nn + 1) pc (D.map rv), .imm (fun w => RsAt w D), .imm LibOk, .imm (VsArg ra rows aa l)]) (fun _ _ v _ => m - (intOf v).toNat)
      case atStart => exact ⟨0, 0, 0, 1, _, [(ra, rc, rows)], newV rows, rfl, rfl, rfl, by omega, HI0, (show Own _ _ _ [VerR p 0 (newV rows), Row2 51 1 _ 1 1 [.slice ra rows.length rc], _, _, _] from hO9.cut (by repeat (first | with_reducible apply Sub.cons | with_reducible exact Pick.here _ _ | with_reducible apply Pick.there | with_reducible apply Sub.base | with_reducible exact Keeps.here _ | with_reducible apply Keeps.skip)))⟩
      case round =>
        clear hO9 HI0
        obtain ⟨j, nn, frm, pc, pa, D, V, rfl, rfl, rfl, hj, HI, hO⟩ := hrel
        rename World => w1
        have hnn := HI.out.now
        have hfrm := HI.out.past.le
        have hcnt := HI.out.cnt
        have hlen := HI.out.len
        have hvl := HI.out.vlen
        have HDL := Lib.hid HI.out.dlen
        ((try clear hf); have hf := hO.facts; (try simp only [FX, Nat.zero_add, Nat.reduceAdd, and_true, true_and, List.map_cons, List.map_nil, List.cons_append, List.nil_append] at hf))
        by_cases hlt : j < m
        · have hj2 : j < l.length := by omega
          have hxl := List.getElem_mem hj2
          obtain ⟨hxs, hxt, hxn, hxc, hxsp⟩ := lightActs_at hli hxl
          have hch := fun w (h : VsArg ra rows aa l w) => ActsAt.chs h.2.2 hxl
          have hA0 := (Own.immOf (φ := VsArg ra rows aa l) hO (by repeat (first | with_reducible exact Pick.here _ _ | with_reducible apply Pick.there))).2.2
          have hspn := fun w (h : VsArg ra rows aa l w) => (h.2.2.2 _ hxl).2.2.1
          rcases hA0.1 with h0 | ⟨b, off, rfl, hc⟩
          · rw [h0] at hj2; simp at hj2
          have hcell := fun w (h : VsArg ra rows (some ⟨b, off, none⟩) l w) => show AcAt w b (off + j * 9) l[j] from by
            rcases h.2.2.1 with h0 | ⟨b', off', he, hc⟩
            · rw [h0] at hj2; simp at hj2
            · simp only [Option.some.injEq, Addr.mk.injEq, and_true] at he
              obtain ⟨rfl, rfl⟩ := he
              exact hc j hj2
          clear hc hA0 hxl
          generalize l[j] = x at *
          obtain ⟨xkind, xA, xB, xC, xK, xS, xT, xcp, xcc, xch, xsp, xsc, xspn⟩ := x
          dsimp only at *
          clear hφ
          have hk9 := hcell _ (Own.immOf (φ := VsArg ra rows (some ⟨b, off, none⟩) l) hO (by repeat (first | with_reducible exact Pick.here _ _ | with_reducible apply Pick.there)))
          obtain ⟨k0, k1, k2, k3, k4, k5, k6, k7, k8⟩ := hk9
          cases hkind : xkind.toList == [99, 111, 109, 109, 105, 116] with
          | true =>
            go_upto_region 26 with (((first | with_reducible refine wpList_alloc_own hO ?_ | with_reducible refine wpList_drew_own hO ?_ | with_reducible refine wp_alloc_own hO ?_ | with_reducible refine wp_drew_own hO ?_ | with_reducible refine bodyPost_alloc_own hO ?_ | with_reducible refine bodyPost_drew_own hO ?_ | ((first | with_reducible apply wpList_set_own | with_reducible apply wp_set_own | with_reducible apply bodyPost_set_own); (focus (first | (with_reducible apply Own.set; (focus (with_reducible apply hO)); (repeat (first | with_reducible exact Put.here _ _ _ | with_reducible apply Put.there)); done) | (with_reducible apply Own.setRow; (focus (with_reducible apply hO)); (focus (repeat (first | with_reducible exact Put.here _ _ _ | with_reducible apply Put.there))); first | assumption | (simp; omega) | (simp; assumption)) | ((repeat' (first | with_reducible apply hO | with_reducible apply Own.set)); all_goals (repeat (first | with_reducible exact Put.here _ _ _ | with_reducible apply Put.there)); done))))); clear hO; intro w9 hO; (try dsimp only [List.set] at hO); ((try clear hf); have hf := hO.facts; (try simp only [FX, Nat.zero_add, Nat.reduceAdd, and_true, true_and, List.map_cons, List.map_nil, List.cons_append, List.nil_append] at hf))))
            obtain ⟨ga, hg9⟩ := (hO.pick (r := Var _ [.string xkind, .int .i64 xA, .int .i64 xB, .int .i64 xC, .int .u64 xK, .string xS, .string xT, .slice xcp xch.length xcc, .slice xsp xspn.length xsc] 47) (by repeat (first | with_reducible exact Pick.here _ _ | with_reducible apply Pick.there))).named
            rw [← hg9]; rw [← hg9] at hO; clear hg9
            have hsz : ∀ c ∈ xch, c.key.size ≤ 100 ∧ c.val.size ≤ 200 := fun c hc => ⟨by have := (hxc c hc).1; omega, by have := (hxc c hc).2; omega⟩
            have HC := vcommit_does p nn V xcp xch.length xcc xch rfl (by omega) hsz (by omega) (fun e he => by have := hvl e he; omega) (φ := VsArg ra rows (some ⟨b, off, none⟩) l) fun w h => ⟨h.1, hch w h⟩
            have HF := fun w (h : VsArg ra rows (some ⟨b, off, none⟩) l w) => deedFault_any xcp xch.length xcc xch rfl (by omega) hsz w (hch w h)
            have HS := same_ok (deedN xch) (by have := deed_le xch none; unfold deedN; omega)
            clear hsz hxc hvl
            by_cases hd : deedN xch = 0
            · obtain ⟨y1, y2, y3⟩ := com_yes (nn := nn) (V := V) hd
              have hnD : nn < D.length := by rw [HDL.out]; omega
              have HI2 := fun a c => Lib.hid (HI.out.commit hd hxn hnD a c)
              rw [y1, y2, hd, show errV 0 = .nilIface from rfl] at HC
              rw [hd] at HF HS
              rw [show errV 0 = .nilIface from rfl] at HS
              rw [show ((0 : Nat) : Int) = 0 from rfl] at HS HF
              have hdr := HI.out.rows _ (List.getElem_mem hnD)
              have hcd : (D.map rv)[nn]? = some (rv D[nn]) := by rw [List.getElem?_map, List.getElem?_eq_getElem hnD]; rfl
              have hdm := List.getElem_mem hnD
              clear y1 y2 y3 hd HI
              generalize D[nn] = d at *
              obtain ⟨da, dc, dr⟩ := d
              dsimp only at *
              have hda : ∀ w, RsAt w D → ValsAt w da (dr.flatMap rwC) := fun w h => h _ hdm
              clear hdm
              replace hO := hO.both (φ := fun w => RsAt w D) (ψ := VsArg ra rows (some ⟨b, off, none⟩) l) (by repeat (first | with_reducible exact Takes.nil _ | with_reducible apply Takes.cons | with_reducible exact Pick.here _ _ | with_reducible apply Pick.there))
              have HAP := applied_does da dr.length dc dr xcp xch.length xcc xch rfl (by omega) rfl (by omega) (φ := fun w => RsAt w D ∧ VsArg ra rows (some ⟨b, off, none⟩) l w) (fun w h => hda w h.1) (fun w h => hch w h.2)
              have h21 := (hO.factOf (r := Row2 51 1 pa (nn + 1) pc (D.map rv)) (by repeat (first | with_reducible exact Pick.here _ _ | with_reducible apply Pick.there))).1
              obtain ⟨b2, o2, rfl⟩ := ValsAt.some h21 hcd
              clear h21
              ((try clear hf); have hf := hO.facts; (try simp only [FX, Nat.zero_add, Nat.reduceAdd, and_true, true_and, List.map_cons, List.map_nil, List.cons_append, List.nil_append] at hf))
              go_wp2_with (first | (go_at_call 27; (with_reducible apply Does.use hO (HC); (focus (repeat (first | with_reducible exact Takes.nil _ | with_reducible apply Takes.cons | with_reducible exact Pick.here _ _ | with_reducible apply Pick.there))); clear hO; intro x9 w9 hO; dsimp only at hO ⊢; simp only [List.cons_append, List.nil_append] at hO; ((try clear hf); have hf := hO.facts; (try simp only [FX, Nat.zero_add, Nat.reduceAdd, and_true, true_and, List.map_cons, List.map_nil, List.cons_append, List.nil_append] at hf)))) | (go_at_call 28; (with_reducible apply Calls.mono (HF _ (Own.immOf (φ := VsArg ra rows (some ⟨b, off, none⟩) l) hO (by repeat (first | with_reducible exact Pick.here _ _ | with_reducible apply Pick.there)))); rintro e8 w8 ⟨rfl, hx8⟩; replace hO := hO.ext hx8; clear hx8; dsimp only; ((try clear hf); have hf := hO.facts; (try simp only [FX, Nat.zero_add, Nat.reduceAdd, and_true, true_and, List.map_cons, List.map_nil, List.cons_append, List.nil_append] at hf)))) | ((first | with_reducible refine wpList_alloc_own hO ?_ | with_reducible refine wpList_drew_own hO ?_ | with_reducible refine wp_alloc_own hO ?_ | with_reducible refine wp_drew_own hO ?_ | with_reducible refine bodyPost_alloc_own hO ?_ | with_reducible refine bodyPost_drew_own hO ?_ | ((first | with_reducible apply wpList_set_own | with_reducible apply wp_set_own | with_reducible apply bodyPost_set_own); (focus (first | (with_reducible apply Own.set; (focus (with_reducible apply hO)); (repeat (first | with_reducible exact Put.here _ _ _ | with_reducible apply Put.there)); done) | (with_reducible apply Own.setRow; (focus (with_reducible apply hO)); (focus (repeat (first | with_reducible exact Put.here _ _ _ | with_reducible apply Put.there))); first | assumption | (simp; omega) | (simp; assumption)) | ((repeat' (first | with_reducible apply hO | with_reducible apply Own.set)); all_goals (repeat (first | with_reducible exact Put.here _ _ _ | with_reducible apply Put.there)); done))))); clear hO; intro w9 hO; (try dsimp only [List.set] at hO); ((try clear hf); have hf := hO.facts; (try simp only [FX, Nat.zero_add, Nat.reduceAdd, and_true, true_and, List.map_cons, List.map_nil, List.cons_append, List.nil_append] at hf))))
              have hcp := fun w (h : ValsAt w (some ⟨b2, o2, none⟩) (D.map rv)) => show w.cell? ⟨b2, o2 + nn, none⟩ = some (.slice da dr.length dc) from ValsAt.get h hcd
              clear hcd
              obtain ⟨iD, hiD, hzD, hsD, hbD⟩ := info_parts Tryd.infoRs
              (refine wp_region_run (fun w8 => Own _ _ w8 [Var ga [.string xkind, .int .i64 xA, .int .i64 xB, .int .i64 xC, .int .u64 xK, .string xS, .string xT, .slice xcp xch.length xcc, .slice xsp xspn.length xsc] 47]) (fun _ _ h hx => h.ext hx) (hO.cut (by repeat (first | with_reducible apply Sub.cons | with_reducible exact Pick.here _ _ | with_reducible apply Pick.there | with_reducible apply Sub.base | with_reducible exact Keeps.here _ | with_reducible apply Keeps.skip))) ((0, 0) :: (0, 1) :: (0, 2) :: (2, 3) :: (0, 4) :: (0, 5) :: (1, 6) :: (0, 7) :: (2, 8) :: (5, 9) :: (4, 10) :: (5, 11) :: (0, 12) :: []) (by kernel_rfl) (by kernel_rfl) rfl (fun _ _ d _ _ h => by cases d <;> exact h) ?_; intro w9 hx9; replace hO := hO.ext hx9; clear hx9; ((try clear hf); have hf := hO.facts; (try simp only [FX, Nat.zero_add, Nat.reduceAdd, and_true, true_and, List.map_cons, List.map_nil, List.cons_append, List.nil_append] at hf)); (repeat (first | (apply inRun_p _ rfl rfl rfl; focus (intro w8 K8 hK8; (repeat (first | go_skip | go_guarded | go_step)); exact hK8)) | (apply inRun_s _ rfl rfl rfl; focus (intro w8 hI8 K8 hK8; (try clear hf); have hf := hI8.facts; (try simp only [FX, Nat.zero_add, Nat.reduceAdd, and_true, true_and, List.map_cons, List.map_nil, List.cons_append, List.nil_append] at hf); skip; (repeat (first | go_skip | go_guarded | go_step)); exact hK8)))))
              (apply inRun_l _ rfl rfl rfl; focus (intro w8 hx8 K8 hK8; have hO := hO.ext hx8; ((try clear hf); have hf := hO.facts; (try simp only [FX, Nat.zero_add, Nat.reduceAdd, and_true, true_and, List.map_cons, List.map_nil, List.cons_append, List.nil_append] at hf)); have c0 := hcp _ (hO.factOf (r := Row2 51 1 (some ⟨b2, o2, none⟩) (nn + 1) pc (D.map rv)) (by repeat (first | with_reducible exact Pick.here _ _ | with_reducible apply Pick.there))).1; (repeat (first | go_skip | go_guarded | go_step)); exact hK8))
              (repeat (first | (apply inRun_p _ rfl rfl rfl; focus (intro w8 K8 hK8; (repeat (first | go_skip | go_guarded | go_step)); exact hK8)) | (apply inRun_s _ rfl rfl rfl; focus (intro w8 hI8 K8 hK8; (try clear hf); have hf := hI8.facts; (try simp only [FX, Nat.zero_add, Nat.reduceAdd, and_true, true_and, List.map_cons, List.map_nil, List.cons_append, List.nil_append] at hf); skip; (repeat (first | go_skip | go_guarded | go_step)); exact hK8))))
              (refine inRun_d rfl ?_; intro K8 hK8; (repeat (first | go_skip | go_guarded | go_step)); (go_at_call 29; (with_reducible apply Does.use hO (HAP); (focus (repeat (first | with_reducible exact Takes.nil _ | with_reducible apply Takes.cons | with_reducible exact Pick.here _ _ | with_reducible apply Pick.there))); clear hO; intro x9 w9 hO; dsimp only at hO ⊢; simp only [List.cons_append, List.nil_append] at hO; ((try clear hf); have hf := hO.facts; (try simp only [FX, Nat.zero_add, Nat.reduceAdd, and_true, true_and, List.map_cons, List.map_nil, List.cons_append, List.nil_append] at hf)); (obtain ⟨qa, qc⟩ := x9; dsimp only at hO ⊢))); (repeat go_step); refine hK8 _ _ (hO.cut (by repeat (first | with_reducible apply Sub.cons | with_reducible exact Pick.here _ _ | with_reducible apply Pick.there | with_reducible apply Sub.base | with_reducible exact Keeps.here _ | with_reducible apply Keeps.skip))) ?_; clear hK8 K8)
              (refine inRun_x rfl ?_; intro K8 hK8; (repeat (first | go_skip | go_guarded | go_step)); refine hK8 _ _ (by repeat (first | exact Ext.refl _ | assumption | refine Ext.of_drew ?_ | refine Ext.alloc ?_ _ | refine Ext.drew ?_ | refine Ext.trans ?_ (by assumption))) ?_; clear hK8 K8; with_reducible refine inRun_alloc_own hO ?_; clear hO; intro w9 hO; ((try clear hf); have hf := hO.facts; (try simp only [FX, Nat.zero_add, Nat.reduceAdd, and_true, true_and, List.map_cons, List.map_nil, List.cons_append, List.nil_append] at hf)))
              (refine inRun_d rfl ?_; intro K8 hK8; (repeat (first | go_skip | go_guarded)); refine wpList_append_var (e := 51) (size := 1) (xs := D.map rv) (news := [.slice qa (xch.foldl appR dr).length qc]) hO (by repeat (first | with_reducible exact Pick.here _ _ | with_reducible apply Pick.there)) (by repeat (first | with_reducible exact Pick.here _ _ | with_reducible apply Pick.there)) rfl (.tmp 135) (.tmp 145) 55 rfl iD _ 24 Tryd.underlying55 hiD hzD hsD hbD rfl (by omega) rfl _ _ rfl (by rfl) (by repeat (first | exact ones_nil | refine ones_cons rfl ?_)) (by unfold maxLen; omega) (by omega) ?_; clear hO; intro ka9 kc9 w9 hO; ((try clear hf); have hf := hO.facts; (try simp only [FX, Nat.zero_add, Nat.reduceAdd, and_true, true_and, List.map_cons, List.map_nil, List.cons_append, List.nil_append] at hf)); (repeat go_step); refine hK8 _ _ (hO.cut (by repeat (first | with_reducible apply Sub.cons | with_reducible exact Pick.here _ _ | with_reducible apply Pick.there | with_reducible apply Sub.base | with_reducible exact Keeps.here _ | with_reducible apply Keeps.skip))) ?_; clear hK8 K8)
              (repeat (first | (apply inRun_p _ rfl rfl rfl; focus (intro w8 K8 hK8; (repeat (first | go_skip | go_guarded | go_step)); exact hK8)) | (apply inRun_s _ rfl rfl rfl; focus (intro w8 hI8 K8 hK8; (try clear hf); have hf := hI8.facts; (try simp only [FX, Nat.zero_add, Nat.reduceAdd, and_true, true_and, List.map_cons, List.map_nil, List.cons_append, List.nil_append] at hf); skip; (repeat (first | go_skip | go_guarded | go_step)); exact hK8))))
              refine inRun_nil ?_
              clear hcp HC HF HAP
              go_wp2_with (first | (go_at_call 16; (with_reducible apply Calls.mono (HS _); rintro e8 w8 ⟨rfl, rfl⟩; dsimp only)) | (go_at_call 37; (with_reducible apply Reads.use hO ((vnow_reads p _ _)); (focus (repeat (first | with_reducible exact Takes.nil _ | with_reducible apply Takes.cons | with_reducible exact Pick.here _ _ | with_reducible apply Pick.there))); clear hO; intro w9 hx9 hO; clear hx9; dsimp only; ((try clear hf); have hf := hO.facts; (try simp only [FX, Nat.zero_add, Nat.reduceAdd, and_true, true_and, List.map_cons, List.map_nil, List.cons_append, List.nil_append] at hf)))) | ((first | with_reducible refine wpList_alloc_own hO ?_ | with_reducible refine wpList_drew_own hO ?_ | with_reducible refine wp_alloc_own hO ?_ | with_reducible refine wp_drew_own hO ?_ | with_reducible refine bodyPost_alloc_own hO ?_ | with_reducible refine bodyPost_drew_own hO ?_ | ((first | with_reducible apply wpList_set_own | with_reducible apply wp_set_own | with_reducible apply bodyPost_set_own); (focus (first | (with_reducible apply Own.set; (focus (with_reducible apply hO)); (repeat (first | with_reducible exact Put.here _ _ _ | with_reducible apply Put.there)); done) | (with_reducible apply Own.setRow; (focus (with_reducible apply hO)); (focus (repeat (first | with_reducible exact Put.here _ _ _ | with_reducible apply Put.there))); first | assumption | (simp; omega) | (simp; assumption)) | ((repeat' (first | with_reducible apply hO | with_reducible apply Own.set)); all_goals (repeat (first | with_reducible exact Put.here _ _ _ | with_reducible apply Put.there)); done))))); clear hO; intro w9 hO; (try dsimp only [List.set] at hO); ((try clear hf); have hf := hO.facts; (try simp only [FX, Nat.zero_add, Nat.reduceAdd, and_true, true_and, List.map_cons, List.map_nil, List.cons_append, List.nil_append] at hf))))
              have hO := (hO.pick (r := Row2 90 2 qa (xch.foldl appR dr).length qc _) (by repeat (first | with_reducible exact Pick.here _ _ | with_reducible apply Pick.there))).rowIm (.here _ _)
              have hO := hO.rsAdd (D := D) (a := qa) (c := qc) (O := xch.foldl appR dr) (by repeat (first | with_reducible exact Takes.nil _ | with_reducible apply Takes.cons | with_reducible exact Pick.here _ _ | with_reducible apply Pick.there))
              refine ⟨⟨j + 1, nn + 1, frm, kc9, ka9, D ++ [(qa, qc, xch.foldl appR dr)], commitV nn xch V, rfl, rfl, by go_num, by omega, HI2 qa qc, ?_⟩, by simp [intOf]; omega⟩
              rw [show (D ++ [(qa, qc, xch.foldl appR dr)]).map rv = D.map rv ++ [.slice qa (xch.foldl appR dr).length qc] from by rw [List.map_append]; rfl]
              exact hO.cut (by repeat (first | with_reducible apply Sub.cons | with_reducible exact Pick.here _ _ | with_reducible apply Pick.there | with_reducible apply Sub.base | with_reducible exact Keeps.here _ | with_reducible apply Keeps.skip))
            · have HI2 := Lib.hid HI.out.more
              obtain ⟨y1, y2, y3⟩ := com_no (nn := nn) (V := V) hd
              rw [y1, y2, y3] at HC
              clear y1 y2 y3 HI
              generalize deedN xch = N at *
              obtain ⟨N, rfl⟩ : ∃ N', N = N' + 1 := ⟨N - 1, by omega⟩
              rw [show errV (N + 1) = .iface 97 (.int .i64 ((N + 1 : Nat) : Int)) from rfl] at HC HS
              have hN0 : ((N + 1 : Nat) : Int) ≠ 0 := by omega
              generalize N + 1 = N' at *
              ((try clear hf); have hf := hO.facts; (try simp only [FX, Nat.zero_add, Nat.reduceAdd, and_true, true_and, List.map_cons, List.map_nil, List.cons_append, List.nil_append] at hf))
              go_wp2_with (first | (go_at_call 27; (with_reducible apply Does.use hO (HC); (focus (repeat (first | with_reducible exact Takes.nil _ | with_reducible apply Takes.cons | with_reducible exact Pick.here _ _ | with_reducible apply Pick.there))); clear hO; intro x9 w9 hO; dsimp only at hO ⊢; simp only [List.cons_append, List.nil_append] at hO; ((try clear hf); have hf := hO.facts; (try simp only [FX, Nat.zero_add, Nat.reduceAdd, and_true, true_and, List.map_cons, List.map_nil, List.cons_append, List.nil_append] at hf)))) | (go_at_call 28; (with_reducible apply Calls.mono (HF _ (Own.immOf (φ := VsArg ra rows (some ⟨b, off, none⟩) l) hO (by repeat (first | with_reducible exact Pick.here _ _ | with_reducible apply Pick.there)))); rintro e8 w8 ⟨rfl, hx8⟩; replace hO := hO.ext hx8; clear hx8; dsimp only; ((try clear hf); have hf := hO.facts; (try simp only [FX, Nat.zero_add, Nat.reduceAdd, and_true, true_and, List.map_cons, List.map_nil, List.cons_append, List.nil_append] at hf)))) | (go_at_call 16; (with_reducible apply Calls.mono (HS _); rintro e8 w8 ⟨rfl, rfl⟩; dsimp only)) | (go_at_call 37; (with_reducible apply Reads.use hO ((vnow_reads p _ _)); (focus (repeat (first | with_reducible exact Takes.nil _ | with_reducible apply Takes.cons | with_reducible exact Pick.here _ _ | with_reducible apply Pick.there))); clear hO; intro w9 hx9 hO; clear hx9; dsimp only; ((try clear hf); have hf := hO.facts; (try simp only [FX, Nat.zero_add, Nat.reduceAdd, and_true, true_and, List.map_cons, List.map_nil, List.cons_append, List.nil_append] at hf)))) | ((first | with_reducible refine wpList_alloc_own hO ?_ | with_reducible refine wpList_drew_own hO ?_ | with_reducible refine wp_alloc_own hO ?_ | with_reducible refine wp_drew_own hO ?_ | with_reducible refine bodyPost_alloc_own hO ?_ | with_reducible refine bodyPost_drew_own hO ?_ | ((first | with_reducible apply wpList_set_own | with_reducible apply wp_set_own | with_reducible apply bodyPost_set_own); (focus (first | (with_reducible apply Own.set; (focus (with_reducible apply hO)); (repeat (first | with_reducible exact Put.here _ _ _ | with_reducible apply Put.there)); done) | (with_reducible apply Own.setRow; (focus (with_reducible apply hO)); (focus (repeat (first | with_reducible exact Put.here _ _ _ | with_reducible apply Put.there))); first | assumption | (simp; omega) | (simp; assumption)) | ((repeat' (first | with_reducible apply hO | with_reducible apply Own.set)); all_goals (repeat (first | with_reducible exact Put.here _ _ _ | with_reducible apply Put.there)); done))))); clear hO; intro w9 hO; (try dsimp only [List.set] at hO); ((try clear hf); have hf := hO.facts; (try simp only [FX, Nat.zero_add, Nat.reduceAdd, and_true, true_and, List.map_cons, List.map_nil, List.cons_append, List.nil_append] at hf))))
              all_goals try (exfalso; omega; done)
              exact ⟨⟨j + 1, nn, frm, pc, pa, D, V, rfl, rfl, by go_num, by omega, HI2, hO.cut (by repeat (first | with_reducible apply Sub.cons | with_reducible exact Pick.here _ _ | with_reducible apply Pick.there | with_reducible apply Sub.base | with_reducible exact Keeps.here _ | with_reducible apply Keeps.skip))⟩, by simp [intOf]; omega⟩
          | false =>
            cases hkind2 : xkind.toList == [118, 97, 99, 117, 117, 109] with
            | true =>
              have HV := vvac_does p nn V xA (fun e he => by have := hvl e he; omega)
              obtain ⟨frm', hf'⟩ : ∃ f' : Nat, (f' : Int) = max (frm : Int) (min xA nn) := ⟨(max (frm : Int) (min xA nn)).toNat, by omega⟩
              have HI2 := Lib.hid (HI.out.vac xA frm' hf')
              go_wp2_with (first | (go_at_call 30; (with_reducible apply Does.use hO (HV); (focus (repeat (first | with_reducible exact Takes.nil _ | with_reducible apply Takes.cons | with_reducible exact Pick.here _ _ | with_reducible apply Pick.there))); clear hO; intro x9 w9 hO; dsimp only at hO ⊢; simp only [List.cons_append, List.nil_append] at hO; ((try clear hf); have hf := hO.facts; (try simp only [FX, Nat.zero_add, Nat.reduceAdd, and_true, true_and, List.map_cons, List.map_nil, List.cons_append, List.nil_append] at hf)))) | ((first | with_reducible refine wpList_alloc_own hO ?_ | with_reducible refine wpList_drew_own hO ?_ | with_reducible refine wp_alloc_own hO ?_ | with_reducible refine wp_drew_own hO ?_ | with_reducible refine bodyPost_alloc_own hO ?_ | with_reducible refine bodyPost_drew_own hO ?_ | ((first | with_reducible apply wpList_set_own | with_reducible apply wp_set_own | with_reducible apply bodyPost_set_own); (focus (first | (with_reducible apply Own.set; (focus (with_reducible apply hO)); (repeat (first | with_reducible exact Put.here _ _ _ | with_reducible apply Put.there)); done) | (with_reducible apply Own.setRow; (focus (with_reducible apply hO)); (focus (repeat (first | with_reducible exact Put.here _ _ _ | with_reducible apply Put.there))); first | assumption | (simp; omega) | (simp; assumption)) | ((repeat' (first | with_reducible apply hO | with_reducible apply Own.set)); all_goals (repeat (first | with_reducible exact Put.here _ _ _ | with_reducible apply Put.there)); done))))); clear hO; intro w9 hO; (try dsimp only [List.set] at hO); ((try clear hf); have hf := hO.facts; (try simp only [FX, Nat.zero_add, Nat.reduceAdd, and_true, true_and, List.map_cons, List.map_nil, List.cons_append, List.nil_append] at hf))))
              rw [← hf']
              by_cases hge : (nn : Int) ≤ xA
              · have hnD : nn < D.length := by rw [HDL.out]; omega
                have hcount := HI.out.past.count (by unfold rss; simpa using hnD) hge
                rw [rss_get hnD] at hcount
                have hcv := cnt_vac xA V
                have HCN := vcount_does p nn (vacV xA V) (by omega)
                rw [hcount] at HCN
                have hcd : (D.map rv)[nn]? = some (rv D[nn]) := by rw [List.getElem?_map, List.getElem?_eq_getElem hnD]; rfl
                clear hcount hcv HI
                generalize D[nn] = d at *
                obtain ⟨da, dc, dr⟩ := d
                dsimp only at *
                obtain ⟨b2, o2, rfl⟩ := ValsAt.some (hO.factOf (r := Row2 51 1 pa (nn + 1) pc (D.map rv)) (by repeat (first | with_reducible exact Pick.here _ _ | with_reducible apply Pick.there))).1 hcd
                have hcp := fun w (h : ValsAt w (some ⟨b2, o2, none⟩) (D.map rv)) => show w.cell? ⟨b2, o2 + nn, none⟩ = some (.slice da dr.length dc) from ValsAt.get h hcd
                clear hcd
                (refine wp_region_run (fun w8 => Own _ _ w8 [Row2 51 1 (some ⟨b2, o2, none⟩) (nn + 1) pc (D.map rv)]) (fun _ _ h hx => h.ext hx) (hO.cut (by repeat (first | with_reducible apply Sub.cons | with_reducible exact Pick.here _ _ | with_reducible apply Pick.there | with_reducible apply Sub.base | with_reducible exact Keeps.here _ | with_reducible apply Keeps.skip))) ((0, 0) :: (0, 1) :: (2, 2) :: (0, 3) :: (0, 4) :: (0, 5) :: (0, 6) :: (0, 8) :: (0, 9) :: (2, 10) :: (0, 11) :: (0, 12) :: (2, 13) :: (2, 14) :: (5, 7) :: (0, 15) :: (0, 16) :: []) (by kernel_rfl) (by kernel_rfl) rfl (fun _ _ d _ _ h => by cases d <;> exact h) ?_; intro w9 hx9; replace hO := hO.ext hx9; clear hx9; ((try clear hf); have hf := hO.facts; (try simp only [FX, Nat.zero_add, Nat.reduceAdd, and_true, true_and, List.map_cons, List.map_nil, List.cons_append, List.nil_append] at hf)); (repeat (first | (apply inRun_p _ rfl rfl rfl; focus (intro w8 K8 hK8; (repeat (first | go_skip | go_guarded | go_step)); exact hK8)) | (apply inRun_s _ rfl rfl rfl; focus (intro w8 hI8 K8 hK8; (try clear hf); have hf := hI8.facts; (try simp only [FX, Nat.zero_add, Nat.reduceAdd, and_true, true_and, List.map_cons, List.map_nil, List.cons_append, List.nil_append] at hf); (have c0 := hcp _ (hI8.factOf (r := Row2 51 1 (some ⟨b2, o2, none⟩) (nn + 1) pc (D.map rv)) (by repeat (first | with_reducible exact Pick.here _ _ | with_reducible apply Pick.there))).1); (repeat (first | go_skip | go_guarded | go_step)); exact hK8)))))
                (refine inRun_d rfl ?_; intro K8 hK8; (repeat (first | go_skip | go_guarded | go_step)); (go_at_call 31; (with_reducible apply Does.use hO (HCN); (focus (repeat (first | with_reducible exact Takes.nil _ | with_reducible apply Takes.cons | with_reducible exact Pick.here _ _ | with_reducible apply Pick.there))); clear hO; intro x9 w9 hO; dsimp only at hO ⊢; simp only [List.cons_append, List.nil_append] at hO; ((try clear hf); have hf := hO.facts; (try simp only [FX, Nat.zero_add, Nat.reduceAdd, and_true, true_and, List.map_cons, List.map_nil, List.cons_append, List.nil_append] at hf)))); (repeat go_step); refine hK8 _ _ (hO.cut (by repeat (first | with_reducible apply Sub.cons | with_reducible exact Pick.here _ _ | with_reducible apply Pick.there | with_reducible apply Sub.base | with_reducible exact Keeps.here _ | with_reducible apply Keeps.skip))) ?_; clear hK8 K8)
                (repeat (first | (apply inRun_p _ rfl rfl rfl; focus (intro w8 K8 hK8; (repeat (first | go_skip | go_guarded | go_step)); exact hK8)) | (apply inRun_s _ rfl rfl rfl; focus (intro w8 hI8 K8 hK8; (try clear hf); have hf := hI8.facts; (try simp only [FX, Nat.zero_add, Nat.reduceAdd, and_true, true_and, List.map_cons, List.map_nil, List.cons_append, List.nil_append] at hf); skip; (repeat (first | go_skip | go_guarded | go_step)); exact hK8))))
                refine inRun_nil ?_
                go_wp2_with (first | (go_at_call 37; (with_reducible apply Reads.use hO ((vnow_reads p _ _)); (focus (repeat (first | with_reducible exact Takes.nil _ | with_reducible apply Takes.cons | with_reducible exact Pick.here _ _ | with_reducible apply Pick.there))); clear hO; intro w9 hx9 hO; clear hx9; dsimp only; ((try clear hf); have hf := hO.facts; (try simp only [FX, Nat.zero_add, Nat.reduceAdd, and_true, true_and, List.map_cons, List.map_nil, List.cons_append, List.nil_append] at hf)))) | ((first | with_reducible refine wpList_alloc_own hO ?_ | with_reducible refine wpList_drew_own hO ?_ | with_reducible refine wp_alloc_own hO ?_ | with_reducible refine wp_drew_own hO ?_ | with_reducible refine bodyPost_alloc_own hO ?_ | with_reducible refine bodyPost_drew_own hO ?_ | ((first | with_reducible apply wpList_set_own | with_reducible apply wp_set_own | with_reducible apply bodyPost_set_own); (focus (first | (with_reducible apply Own.set; (focus (with_reducible apply hO)); (repeat (first | with_reducible exact Put.here _ _ _ | with_reducible apply Put.there)); done) | (with_reducible apply Own.setRow; (focus (with_reducible apply hO)); (focus (repeat (first | with_reducible exact Put.here _ _ _ | with_reducible apply Put.there))); first | assumption | (simp; omega) | (simp; assumption)) | ((repeat' (first | with_reducible apply hO | with_reducible apply Own.set)); all_goals (repeat (first | with_reducible exact Put.here _ _ _ | with_reducible apply Put.there)); done))))); clear hO; intro w9 hO; (try dsimp only [List.set] at hO); ((try clear hf); have hf := hO.facts; (try simp only [FX, Nat.zero_add, Nat.reduceAdd, and_true, true_and, List.map_cons, List.map_nil, List.cons_append, List.nil_append] at hf))))
                exact ⟨⟨j + 1, nn, frm', pc, some ⟨b2, o2, none⟩, D, vacV xA V, rfl, rfl, by go_num, by omega, HI2, hO.cut (by repeat (first | with_reducible apply Sub.cons | with_reducible exact Pick.here _ _ | with_reducible apply Pick.there | with_reducible apply Sub.base | with_reducible exact Keeps.here _ | with_reducible apply Keeps.skip))⟩, by simp [intOf]; omega⟩
              · clear HI hvl HV
                (refine wp_region_run (fun w8 => Own _ _ w8 [.imm LibOk]) (fun _ _ h hx => h.ext hx) (hO.cut (by repeat (first | with_reducible apply Sub.cons | with_reducible exact Pick.here _ _ | with_reducible apply Pick.there | with_reducible apply Sub.base | with_reducible exact Keeps.here _ | with_reducible apply Keeps.skip))) ((0, 0) :: (0, 1) :: (2, 2) :: (0, 3) :: (0, 4) :: (0, 5) :: (0, 6) :: (0, 8) :: (0, 9) :: (2, 10) :: (0, 11) :: (0, 12) :: (2, 13) :: (2, 14) :: (5, 7) :: (0, 15) :: (0, 16) :: []) (by kernel_rfl) (by kernel_rfl) rfl (fun _ _ d _ _ h => by cases d <;> exact h) ?_; intro w9 hx9; replace hO := hO.ext hx9; clear hx9; ((try clear hf); have hf := hO.facts; (try simp only [FX, Nat.zero_add, Nat.reduceAdd, and_true, true_and, List.map_cons, List.map_nil, List.cons_append, List.nil_append] at hf)); (repeat (first | (apply inRun_p _ rfl rfl rfl; focus (intro w8 K8 hK8; (repeat (first | go_skip | go_guarded | go_step)); exact hK8)) | (apply inRun_s _ rfl rfl rfl; focus (intro w8 hI8 K8 hK8; (try clear hf); have hf := hI8.facts; (try simp only [FX, Nat.zero_add, Nat.reduceAdd, and_true, true_and, List.map_cons, List.map_nil, List.cons_append, List.nil_append] at hf); skip; (repeat (first | go_skip | go_guarded | go_step)); exact hK8)))))
                (refine inRun_d rfl ?_; intro K8 hK8; (repeat (first | go_skip | go_guarded | go_step)); refine hK8 _ _ (hO.cut (by repeat (first | with_reducible apply Sub.cons | with_reducible exact Pick.here _ _ | with_reducible apply Pick.there | with_reducible apply Sub.base | with_reducible exact Keeps.here _ | with_reducible apply Keeps.skip))) ?_; clear hK8 K8)
                (repeat (first | (apply inRun_p _ rfl rfl rfl; focus (intro w8 K8 hK8; (repeat (first | go_skip | go_guarded | go_step)); exact hK8)) | (apply inRun_s _ rfl rfl rfl; focus (intro w8 hI8 K8 hK8; (try clear hf); have hf := hI8.facts; (try simp only [FX, Nat.zero_add, Nat.reduceAdd, and_true, true_and, List.map_cons, List.map_nil, List.cons_append, List.nil_append] at hf); skip; (repeat (first | go_skip | go_guarded | go_step)); exact hK8))))
                refine inRun_nil ?_
                go_wp2_with (first | (go_at_call 37; (with_reducible apply Reads.use hO ((vnow_reads p _ _)); (focus (repeat (first | with_reducible exact Takes.nil _ | with_reducible apply Takes.cons | with_reducible exact Pick.here _ _ | with_reducible apply Pick.there))); clear hO; intro w9 hx9 hO; clear hx9; dsimp only; ((try clear hf); have hf := hO.facts; (try simp only [FX, Nat.zero_add, Nat.reduceAdd, and_true, true_and, List.map_cons, List.map_nil, List.cons_append, List.nil_append] at hf)))) | ((first | with_reducible refine wpList_alloc_own hO ?_ | with_reducible refine wpList_drew_own hO ?_ | with_reducible refine wp_alloc_own hO ?_ | with_reducible refine wp_drew_own hO ?_ | with_reducible refine bodyPost_alloc_own hO ?_ | with_reducible refine bodyPost_drew_own hO ?_ | ((first | with_reducible apply wpList_set_own | with_reducible apply wp_set_own | with_reducible apply bodyPost_set_own); (focus (first | (with_reducible apply Own.set; (focus (with_reducible apply hO)); (repeat (first | with_reducible exact Put.here _ _ _ | with_reducible apply Put.there)); done) | (with_reducible apply Own.setRow; (focus (with_reducible apply hO)); (focus (repeat (first | with_reducible exact Put.here _ _ _ | with_reducible apply Put.there))); first | assumption | (simp; omega) | (simp; assumption)) | ((repeat' (first | with_reducible apply hO | with_reducible apply Own.set)); all_goals (repeat (first | with_reducible exact Put.here _ _ _ | with_reducible apply Put.there)); done))))); clear hO; intro w9 hO; (try dsimp only [List.set] at hO); ((try clear hf); have hf := hO.facts; (try simp only [FX, Nat.zero_add, Nat.reduceAdd, and_true, true_and, List.map_cons, List.map_nil, List.cons_append, List.nil_append] at hf))))
                exact ⟨⟨j + 1, nn, frm', pc, pa, D, vacV xA V, rfl, rfl, by go_num, by omega, HI2, hO.cut (by repeat (first | with_reducible apply Sub.cons | with_reducible exact Pick.here _ _ | with_reducible apply Pick.there | with_reducible apply Sub.base | with_reducible exact Keeps.here _ | with_reducible apply Keeps.skip))⟩, by simp [intOf]; omega⟩
            | false =>
              go_upto_region 15 with (((first | with_reducible refine wpList_alloc_own hO ?_ | with_reducible refine wpList_drew_own hO ?_ | with_reducible refine wp_alloc_own hO ?_ | with_reducible refine wp_drew_own hO ?_ | with_reducible refine bodyPost_alloc_own hO ?_ | with_reducible refine bodyPost_drew_own hO ?_ | ((first | with_reducible apply wpList_set_own | with_reducible apply wp_set_own | with_reducible apply bodyPost_set_own); (focus (first | (with_reducible apply Own.set; (focus (with_reducible apply hO)); (repeat (first | with_reducible exact Put.here _ _ _ | with_reducible apply Put.there)); done) | (with_reducible apply Own.setRow; (focus (with_reducible apply hO)); (focus (repeat (first | with_reducible exact Put.here _ _ _ | with_reducible apply Put.there))); first | assumption | (simp; omega) | (simp; assumption)) | ((repeat' (first | with_reducible apply hO | with_reducible apply Own.set)); all_goals (repeat (first | with_reducible exact Put.here _ _ _ | with_reducible apply Put.there)); done))))); clear hO; intro w9 hO; (try dsimp only [List.set] at hO); ((try clear hf); have hf := hO.facts; (try simp only [FX, Nat.zero_add, Nat.reduceAdd, and_true, true_and, List.map_cons, List.map_nil, List.cons_append, List.nil_append] at hf))))
              obtain ⟨q, hq⟩ : ∃ q : Nat, (q : Int) = min (max xA frm) ((nn : Int) + 1 + 3) := ⟨(min (max xA frm) ((nn : Int) + 1 + 3)).toNat, by omega⟩
              obtain ⟨jj, hjj⟩ : ∃ jj : Nat, (jj : Int) = min (q : Int) nn := ⟨min q nn, by omega⟩
              have hjn : jj ≤ nn := by omega
              have hfq : frm ≤ q := by omega
              have hmn : min (q : Int) (nn : Int) = (jj : Int) := hjj.symm
              rw [← hq]
              have hjD : jj < D.length := by rw [HDL.out]; omega
              have hrd := fun k => HI.out.past.read (m := q) (by omega) hjj (by unfold rss; simpa using hjD) k
              have hsc := fun f => HI.out.past.scan (m := q) (by omega) hjj (by unfold rss; simpa using hjD) f
              rw [rss_get hjD] at hrd hsc
              have hdr := HI.out.rows _ (List.getElem_mem hjD)
              have hdm := List.getElem_mem hjD
              have hcd : (D.map rv)[jj]? = some (rv D[jj]) := by rw [List.getElem?_map, List.getElem?_eq_getElem hjD]; rfl
              clear hq hjj
              generalize D[jj] = d at *
              obtain ⟨da, dc, dr⟩ := d
              dsimp only at *
              have hda : ∀ w, RsAt w D → ValsAt w da (dr.flatMap rwC) := fun w h => h _ hdm
              clear hdm
              obtain ⟨b2, o2, rfl⟩ := ValsAt.some (hO.factOf (r := Row2 51 1 pa (nn + 1) pc (D.map rv)) (by repeat (first | with_reducible exact Pick.here _ _ | with_reducible apply Pick.there))).1 hcd
              have c0 := show w9.cell? ⟨b2, o2 + jj, none⟩ = some (.slice da dr.length dc) from ValsAt.get (hO.factOf (r := Row2 51 1 (some ⟨b2, o2, none⟩) (nn + 1) pc (D.map rv)) (by repeat (first | with_reducible exact Pick.here _ _ | with_reducible apply Pick.there))).1 hcd
              clear hcd
              have HRD := vread_reads p nn V xS q (fun e he => by have := hvl e he; omega)
              have HVA := fun w (h : RsAt w D) => value_any da dr.length dc dr xS w rfl (by omega) (hda w h)
              rw [hrd xS] at HRD
              clear hrd
              generalize valR dr xS = y at *
              obtain ⟨yv, yb⟩ := y
              dsimp only at HRD HVA
              go_wp2_with (first | (go_at_call 32; (with_reducible apply Reads.use hO (HRD); (focus (repeat (first | with_reducible exact Takes.nil _ | with_reducible apply Takes.cons | with_reducible exact Pick.here _ _ | with_reducible apply Pick.there))); clear hO; intro w9 hx9 hO; clear hx9; dsimp only; ((try clear hf); have hf := hO.facts; (try simp only [FX, Nat.zero_add, Nat.reduceAdd, and_true, true_and, List.map_cons, List.map_nil, List.cons_append, List.nil_append] at hf)))) | (go_at_call 33; (with_reducible apply Calls.mono (HVA _ (Own.immOf (φ := fun w => RsAt w D) hO (by repeat (first | with_reducible exact Pick.here _ _ | with_reducible apply Pick.there)))); rintro e8 w8 ⟨rfl, hx8⟩; replace hO := hO.ext hx8; clear hx8; dsimp only; ((try clear hf); have hf := hO.facts; (try simp only [FX, Nat.zero_add, Nat.reduceAdd, and_true, true_and, List.map_cons, List.map_nil, List.cons_append, List.nil_append] at hf)))) | ((first | with_reducible refine wpList_alloc_own hO ?_ | with_reducible refine wpList_drew_own hO ?_ | with_reducible refine wp_alloc_own hO ?_ | with_reducible refine wp_drew_own hO ?_ | with_reducible refine bodyPost_alloc_own hO ?_ | with_reducible refine bodyPost_drew_own hO ?_ | ((first | with_reducible apply wpList_set_own | with_reducible apply wp_set_own | with_reducible apply bodyPost_set_own); (focus (first | (with_reducible apply Own.set; (focus (with_reducible apply hO)); (repeat (first | with_reducible exact Put.here _ _ _ | with_reducible apply Put.there)); done) | (with_reducible apply Own.setRow; (focus (with_reducible apply hO)); (focus (repeat (first | with_reducible exact Put.here _ _ _ | with_reducible apply Put.there))); first | assumption | (simp; omega) | (simp; assumption)) | ((repeat' (first | with_reducible apply hO | with_reducible apply Own.set)); all_goals (repeat (first | with_reducible exact Put.here _ _ _ | with_reducible apply Put.there)); done))))); clear hO; intro w9 hO; (try dsimp only [List.set] at hO); ((try clear hf); have hf := hO.facts; (try simp only [FX, Nat.zero_add, Nat.reduceAdd, and_true, true_and, List.map_cons, List.map_nil, List.cons_append, List.nil_append] at hf))))
              obtain ⟨ga, hg9⟩ := (hO.pick (r := Var _ [.string xkind, .int .i64 xA, .int .i64 xB, .int .i64 xC, .int .u64 xK, .string xS, .string xT, .slice xcp xch.length xcc, .slice xsp xspn.length xsc] 47) (by repeat (first | with_reducible exact Pick.here _ _ | with_reducible apply Pick.there))).named
              rw [← hg9]; rw [← hg9] at hO; clear hg9
              have hO9 := hO
              have HI2 := Lib.hid HI.out.more
              clear hO hf HRD HVA c0 HI
              go_loopw [21] (fun v wr => ∃ k : Nat, v = .int .i64 k ∧ k ≤ 1 ∧ Own (fun _ => False) W wr [VerR p nn V, Row2 51 1 (some ⟨b2, o2, none⟩) (nn + 1) pc (D.map rv), .imm (fun w => RsAt w D), Var ga [.string xkind, .int .i64 xA, .int .i64 xB, .int .i64 xC, .int .u64 xK, .string xS, .string xT, .slice xcp xch.length xcc, .slice xsp xspn.length xsc] 47, .imm LibOk, .imm (VsArg ra rows (some ⟨b, off, none⟩) l)]) (fun v _ => 2 - (intOf v).toNat)
              case atStart => exact ⟨0, rfl, by omega, hO9.cut (by repeat (first | with_reducible apply Sub.cons | with_reducible exact Pick.here _ _ | with_reducible apply Pick.there | with_reducible apply Sub.base | with_reducible exact Keeps.here _ | with_reducible apply Keeps.skip))⟩
              case round =>
                clear hO9
                obtain ⟨k, rfl, hk, hO⟩ := hrel
                rename World => w2
                ((try clear hf); have hf := hO.facts; (try simp only [FX, Nat.zero_add, Nat.reduceAdd, and_true, true_and, List.map_cons, List.map_nil, List.cons_append, List.nil_append] at hf))
                by_cases hks : k < xspn.length ∧ k < 1
                · obtain ⟨hks, hk1⟩ := hks
                  obtain rfl : k = 0 := by omega
                  have hsp1 := hspn _ (Own.immOf (φ := VsArg ra rows (some ⟨b, off, none⟩) l) hO (by repeat (first | with_reducible exact Pick.here _ _ | with_reducible apply Pick.there)))
                  rcases hsp1 with h0 | ⟨b3, o3, rfl, _⟩
                  · rw [h0] at hks; simp at hks
                  have hsp0 := fun w (h : VsArg ra rows (some ⟨b, off, none⟩) l w) => show w.cell? ⟨b3, o3 + 0 * 2, none⟩ = some (.string xspn[0].lo) ∧ w.cell? ⟨b3, o3 + 0 * 2 + 1, none⟩ = some (.string xspn[0].hi) from by
                    rcases hspn w h with h0 | ⟨b', off', he, hc⟩
                    · rw [h0] at hks; simp at hks
                    · simp only [Option.some.injEq, Addr.mk.injEq, and_true] at he
                      obtain ⟨rfl, rfl⟩ := he
                      exact hc 0 hks
                  simp only [Nat.zero_mul, Nat.add_zero] at hsp0
                  clear hspn
                  generalize xspn[0] = sp at *
                  obtain ⟨lo, hi⟩ := sp
                  dsimp only at hsp0
                  have HSC := vscan_does p nn V lo hi q (by omega) (fun e he => by have := hvl e he; omega)
                  rw [show scanV V (hasB lo hi) q = inR lo hi dr from hsc _] at HSC
                  have HIN := in_does da dr.length dc dr lo hi rfl (by omega) (φ := fun w => RsAt w D) hda
                  have hil : (inR lo hi dr).length ≤ dr.length := List.length_filter_le _ _
                  have HSR := fun (a1 a2 : Option Addr) (c1 c2 : Nat) w => sameRows_any a1 a2 (inR lo hi dr).length c1 c2 (inR lo hi dr) w rfl (by omega)
                  clear hil
                  go_wp2_with (first | ((first | with_reducible refine wpList_alloc_own hO ?_ | with_reducible refine wpList_drew_own hO ?_ | with_reducible refine wp_alloc_own hO ?_ | with_reducible refine wp_drew_own hO ?_ | with_reducible refine bodyPost_alloc_own hO ?_ | with_reducible refine bodyPost_drew_own hO ?_ | ((first | with_reducible apply wpList_set_own | with_reducible apply wp_set_own | with_reducible apply bodyPost_set_own); (focus (first | (with_reducible apply Own.set; (focus (with_reducible apply hO)); (repeat (first | with_reducible exact Put.here _ _ _ | with_reducible apply Put.there)); done) | (with_reducible apply Own.setRow; (focus (with_reducible apply hO)); (focus (repeat (first | with_reducible exact Put.here _ _ _ | with_reducible apply Put.there))); first | assumption | (simp; omega) | (simp; assumption)) | ((repeat' (first | with_reducible apply hO | with_reducible apply Own.set)); all_goals (repeat (first | with_reducible exact Put.here _ _ _ | with_reducible apply Put.there)); done))))); clear hO; intro w9 hO; (try dsimp only [List.set] at hO); ((try clear hf); have hf := hO.facts; (try simp only [FX, Nat.zero_add, Nat.reduceAdd, and_true, true_and, List.map_cons, List.map_nil, List.cons_append, List.nil_append] at hf))))
                  refine wp_region_planI (fun w8 => Own _ _ w8 [Var ga [.string xkind, .int .i64 xA, .int .i64 xB, .int .i64 xC, .int .u64 xK, .string xS, .string xT, .slice xcp xch.length xcc, .slice (some ⟨b3, o3, none⟩) xspn.length xsc] 47, .imm (VsArg ra rows (some ⟨b, off, none⟩) l)]) (fun _ _ h hx => h.ext hx) (hO.cut (by repeat (first | with_reducible apply Sub.cons | with_reducible exact Pick.here _ _ | with_reducible apply Pick.there | with_reducible apply Sub.base | with_reducible exact Keeps.here _ | with_reducible apply Keeps.skip))) [0, 1, 3, 4, 6, 8, 9, 11, 12, 16, 1002, 1005, 1010, 1013] (.pure 0 <| .pure 1 <| .see 2 <| .pure 3 <| .pure 4 <| .see 5 <| .pure 6 <| .pure 8 <| .pure 9 <| .see 10 <| .pure 11 <| .pure 12 <| .see 13 <| .one 7 <| .one 14 <| .one 15 <| .pure 16 .done) (by kernel_rfl) (by kernel_rfl) (fun _ _ d _ _ h => by cases d <;> exact h) ?_
                  intro w9 hx9; replace hO := hO.ext hx9; clear hx9
                  ((try clear hf); have hf := hO.facts; (try simp only [FX, Nat.zero_add, Nat.reduceAdd, and_true, true_and, List.map_cons, List.map_nil, List.cons_append, List.nil_append] at hf))
                  (repeat (first | (apply inPlan_p _ rfl rfl rfl; focus (intro w8 K8 hK8; (repeat (first | go_skip | go_guarded | go_step)); exact hK8)) | (apply inPlan_s _ rfl rfl rfl; focus (intro w8 hI8 K8 hK8; (try clear hf); have hf := hI8.facts; (try simp only [FX, Nat.zero_add, Nat.reduceAdd, and_true, true_and, List.map_cons, List.map_nil, List.cons_append, List.nil_append] at hf); obtain ⟨c0, c1⟩ := hsp0 _ (Own.immOf (φ := VsArg ra rows (some ⟨b, off, none⟩) l) hI8 (by repeat (first | with_reducible exact Pick.here _ _ | with_reducible apply Pick.there))); (repeat (first | go_skip | go_guarded | go_step)); exact hK8))))
                  refine inPlan_oneI rfl ?_
                  (intro K8 hK8; (repeat (first | go_skip | go_guarded | go_step)); (go_at_call 35; (with_reducible apply Does.use hO (HSC); (focus (repeat (first | with_reducible exact Takes.nil _ | with_reducible apply Takes.cons | with_reducible exact Pick.here _ _ | with_reducible apply Pick.there))); clear hO; intro x9 w9 hO; dsimp only at hO ⊢; simp only [List.cons_append, List.nil_append] at hO; ((try clear hf); have hf := hO.facts; (try simp only [FX, Nat.zero_add, Nat.reduceAdd, and_true, true_and, List.map_cons, List.map_nil, List.cons_append, List.nil_append] at hf)); (obtain ⟨sa, sc⟩ := x9; dsimp only at hO ⊢))); (repeat go_step); refine hK8 _ _ (hO.cut (by repeat (first | with_reducible apply Sub.cons | with_reducible exact Pick.here _ _ | with_reducible apply Pick.there | with_reducible apply Sub.base | with_reducible exact Keeps.here _ | with_reducible apply Keeps.skip))) ?_; clear hK8 K8)
                  refine inPlan_oneI rfl ?_
                  (intro K8 hK8; (repeat (first | go_skip | go_guarded | go_step)); (go_at_call 36; (with_reducible apply Does.use hO (HIN); (focus (repeat (first | with_reducible exact Takes.nil _ | with_reducible apply Takes.cons | with_reducible exact Pick.here _ _ | with_reducible apply Pick.there))); clear hO; intro x9 w9 hO; dsimp only at hO ⊢; simp only [List.cons_append, List.nil_append] at hO; ((try clear hf); have hf := hO.facts; (try simp only [FX, Nat.zero_add, Nat.reduceAdd, and_true, true_and, List.map_cons, List.map_nil, List.cons_append, List.nil_append] at hf)); (obtain ⟨ia, ic⟩ := x9; dsimp only at hO ⊢))); (repeat go_step); refine hK8 _ _ (hO.cut (by repeat (first | with_reducible apply Sub.cons | with_reducible exact Pick.here _ _ | with_reducible apply Pick.there | with_reducible apply Sub.base | with_reducible exact Keeps.here _ | with_reducible apply Keeps.skip))) ?_; clear hK8 K8)
                  refine inPlan_oneI rfl ?_
                  (intro K8 hK8; (repeat (first | go_skip | go_guarded | go_step)); (go_at_call 34; (with_reducible apply Calls.mono (HSR sa ia sc ic _ (row_vals (hO.factOf (r := Row2 90 2 sa (inR lo hi dr).length sc ((inR lo hi dr).flatMap rwC)) (by repeat (first | with_reducible exact Pick.here _ _ | with_reducible apply Pick.there)))) (row_vals (hO.factOf (r := Row2 90 2 ia (inR lo hi dr).length ic ((inR lo hi dr).flatMap rwC)) (by repeat (first | with_reducible exact Pick.here _ _ | with_reducible apply Pick.there))))); rintro e8 w8 ⟨rfl, hx8⟩; replace hO := hO.ext hx8; clear hx8; dsimp only; ((try clear hf); have hf := hO.facts; (try simp only [FX, Nat.zero_add, Nat.reduceAdd, and_true, true_and, List.map_cons, List.map_nil, List.cons_append, List.nil_append] at hf)))); (repeat go_step); refine hK8 _ _ (hO.cut (by repeat (first | with_reducible apply Sub.cons | with_reducible exact Pick.here _ _ | with_reducible apply Pick.there | with_reducible apply Sub.base | with_reducible exact Keeps.here _ | with_reducible apply Keeps.skip))) ?_; clear hK8 K8)
                  (repeat (first | (apply inPlan_p _ rfl rfl rfl; focus (intro w8 K8 hK8; (repeat (first | go_skip | go_guarded | go_step)); exact hK8)) | (apply inPlan_s _ rfl rfl rfl; focus (intro w8 hI8 K8 hK8; (try clear hf); have hf := hI8.facts; (try simp only [FX, Nat.zero_add, Nat.reduceAdd, and_true, true_and, List.map_cons, List.map_nil, List.cons_append, List.nil_append] at hf); obtain ⟨c0, c1⟩ := hsp0 _ (Own.immOf (φ := VsArg ra rows (some ⟨b, off, none⟩) l) hI8 (by repeat (first | with_reducible exact Pick.here _ _ | with_reducible apply Pick.there))); (repeat (first | go_skip | go_guarded | go_step)); exact hK8))))
                  refine inPlan_done ?_
                  go_wp2_with (first | ((first | with_reducible refine wpList_alloc_own hO ?_ | with_reducible refine wpList_drew_own hO ?_ | with_reducible refine wp_alloc_own hO ?_ | with_reducible refine wp_drew_own hO ?_ | with_reducible refine bodyPost_alloc_own hO ?_ | with_reducible refine bodyPost_drew_own hO ?_ | ((first | with_reducible apply wpList_set_own | with_reducible apply wp_set_own | with_reducible apply bodyPost_set_own); (focus (first | (with_reducible apply Own.set; (focus (with_reducible apply hO)); (repeat (first | with_reducible exact Put.here _ _ _ | with_reducible apply Put.there)); done) | (with_reducible apply Own.setRow; (focus (with_reducible apply hO)); (focus (repeat (first | with_reducible exact Put.here _ _ _ | with_reducible apply Put.there))); first | assumption | (simp; omega) | (simp; assumption)) | ((repeat' (first | with_reducible apply hO | with_reducible apply Own.set)); all_goals (repeat (first | with_reducible exact Put.here _ _ _ | with_reducible apply Put.there)); done))))); clear hO; intro w9 hO; (try dsimp only [List.set] at hO); ((try clear hf); have hf := hO.facts; (try simp only [FX, Nat.zero_add, Nat.reduceAdd, and_true, true_and, List.map_cons, List.map_nil, List.cons_append, List.nil_append] at hf))))
                  exact ⟨⟨1, rfl, by omega, hO.cut (by repeat (first | with_reducible apply Sub.cons | with_reducible exact Pick.here _ _ | with_reducible apply Pick.there | with_reducible apply Sub.base | with_reducible exact Keeps.here _ | with_reducible apply Keeps.skip))⟩, by simp [intOf]⟩
                · go_wp2_with (first | (go_at_call 37; (with_reducible apply Reads.use hO ((vnow_reads p _ _)); (focus (repeat (first | with_reducible exact Takes.nil _ | with_reducible apply Takes.cons | with_reducible exact Pick.here _ _ | with_reducible apply Pick.there))); clear hO; intro w9 hx9 hO; clear hx9; dsimp only; ((try clear hf); have hf := hO.facts; (try simp only [FX, Nat.zero_add, Nat.reduceAdd, and_true, true_and, List.map_cons, List.map_nil, List.cons_append, List.nil_append] at hf)))) | ((first | with_reducible refine wpList_alloc_own hO ?_ | with_reducible refine wpList_drew_own hO ?_ | with_reducible refine wp_alloc_own hO ?_ | with_reducible refine wp_drew_own hO ?_ | with_reducible refine bodyPost_alloc_own hO ?_ | with_reducible refine bodyPost_drew_own hO ?_ | ((first | with_reducible apply wpList_set_own | with_reducible apply wp_set_own | with_reducible apply bodyPost_set_own); (focus (first | (with_reducible apply Own.set; (focus (with_reducible apply hO)); (repeat (first | with_reducible exact Put.here _ _ _ | with_reducible apply Put.there)); done) | (with_reducible apply Own.setRow; (focus (with_reducible apply hO)); (focus (repeat (first | with_reducible exact Put.here _ _ _ | with_reducible apply Put.there))); first | assumption | (simp; omega) | (simp; assumption)) | ((repeat' (first | with_reducible apply hO | with_reducible apply Own.set)); all_goals (repeat (first | with_reducible exact Put.here _ _ _ | with_reducible apply Put.there)); done))))); clear hO; intro w9 hO; (try dsimp only [List.set] at hO); ((try clear hf); have hf := hO.facts; (try simp only [FX, Nat.zero_add, Nat.reduceAdd, and_true, true_and, List.map_cons, List.map_nil, List.cons_append, List.nil_append] at hf))))
                  all_goals try (exfalso; omega; done)
                  all_goals exact ⟨⟨j + 1, nn, frm, pc, some ⟨b2, o2, none⟩, D, V, rfl, rfl, by go_num, by omega, HI2, hO.cut (by repeat (first | with_reducible apply Sub.cons | with_reducible exact Pick.here _ _ | with_reducible apply Pick.there | with_reducible apply Sub.base | with_reducible exact Keeps.here _ | with_reducible apply Keeps.skip))⟩, by simp [intOf]; omega⟩
        · obtain rfl : j = m := by omega
          go_wp2_with (first | ((first | with_reducible refine wpList_alloc_own hO ?_ | with_reducible refine wpList_drew_own hO ?_ | with_reducible refine wp_alloc_own hO ?_ | with_reducible refine wp_drew_own hO ?_ | with_reducible refine bodyPost_alloc_own hO ?_ | with_reducible refine bodyPost_drew_own hO ?_ | ((first | with_reducible apply wpList_set_own | with_reducible apply wp_set_own | with_reducible apply bodyPost_set_own); (focus (first | (with_reducible apply Own.set; (focus (with_reducible apply hO)); (repeat (first | with_reducible exact Put.here _ _ _ | with_reducible apply Put.there)); done) | (with_reducible apply Own.setRow; (focus (with_reducible apply hO)); (focus (repeat (first | with_reducible exact Put.here _ _ _ | with_reducible apply Put.there))); first | assumption | (simp; omega) | (simp; assumption)) | ((repeat' (first | with_reducible apply hO | with_reducible apply Own.set)); all_goals (repeat (first | with_reducible exact Put.here _ _ _ | with_reducible apply Put.there)); done))))); clear hO; intro w9 hO; (try dsimp only [List.set] at hO); ((try clear hf); have hf := hO.facts; (try simp only [FX, Nat.zero_add, Nat.reduceAdd, and_true, true_and, List.map_cons, List.map_nil, List.cons_append, List.nil_append] at hf))))
          go_ret
          exact ⟨rfl, hO.toExt⟩
end Go.Proofs.YtpdnlgopbnkdhaaDoor
