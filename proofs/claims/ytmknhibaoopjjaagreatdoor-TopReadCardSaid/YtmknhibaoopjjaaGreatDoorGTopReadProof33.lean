/- Texts VersionsSays of this claim, laid together. -/
import Derived.Test.YtmknhibaoopjjaaGreatDoorGTopReadProof32
import Derived.Test.YtmknhibaoopjjaaGreatDoorGTopReadProof12
import Derived.Test.YtmknhibaoopjjaaGreatDoorGTopReadProof3
set_option linter.unusedVariables false
set_option linter.unusedSimpArgs false
namespace Go.Proofs.YtmknhibaoopjjaaGreatDoor
open Go.RowKit
theorem deed_le : ∀ (l : List Ch) (p : Option ByteArray), deedFrom p l ≤ 3
  | [], p => by unfold deedFrom; exact Nat.zero_le _
  | c :: l, p => by
    have h1 := chN_le c
    have h2 := deed_le l (some c.key)
    unfold deedFrom
    by_cases hc : chN c ≠ 0
    · rw [if_pos hc]; omega
    · rw [if_neg hc]
      cases p with
      | none => exact h2
      | some k =>
        show (if (!slt k c.key) = true then 3 else deedFrom (some c.key) l) ≤ 3
        split
        · exact Nat.le_refl _
        · exact h2
abbrev RV := Option Addr × Nat × List Rw
def rv (d : RV) : Value := .slice d.1 d.2.2.length d.2.1
def RsAt (w : World) (D : List RV) : Prop := ∀ d ∈ D, ValsAt w d.1 (d.2.2.flatMap rwC)
def rss (D : List RV) : List (List Rw) := D.map fun d => d.2.2
theorem row_vals {w : World} {e : TypeId} {size n c : Nat} {a : Option Addr} {xs : List Value} (h : (Row2 e size a n c xs).facts w) : ValsAt w a xs := h.1
theorem Own.rowIm {S : Nat → Prop} {W w : World} {l l' : List Rs} {e : TypeId} {size : Nat} {a : Option Addr} {n c : Nat} {xs : List Value} (h : Own S W w l) (hp : Pick l (Row2 e size a n c xs) l') : Own S W w (.imm (fun w => ValsAt w a xs) :: l') :=
  Own.toImm (r := Row2 e size a n c xs) (φ := fun w => ValsAt w a xs) (fun w h => h.1) (h.pick hp)
theorem Own.rsAdd {S : Nat → Prop} {W w : World} {l l' : List Rs} {a : Option Addr} {c : Nat} {O : List Rw} {D : List RV} (h : Own S W w l) (ht : Takes l [.imm (fun w => RsAt w D), .imm (fun w => ValsAt w a (O.flatMap rwC))] l') : Own S W w (.imm (fun w => RsAt w (D ++ [(a, c, O)])) :: l') := by
  have h1 := h.take ht
  simp only [List.cons_append, List.nil_append] at h1
  exact h1.and.imp fun w ⟨h4, h5⟩ d hd => by
    rcases List.mem_append.1 hd with hd | hd
    · exact h4 d hd
    · rw [List.mem_singleton.1 hd]; exact h5
set_option maxHeartbeats 1000000 in
set_option maxRecDepth 100000 in
theorem vnow_reads (p nn : Nat) (V : List (ByteArray × List Vn)) : Reads Tryz.prog 63 #[.pointer (some ⟨p, 0, none⟩)] [VerR p nn V] (.int .i64 nn) := by
  intro w L0 hO; simp only [FZ] at hO; obtain ⟨⟨b, clock, L⟩, hO⟩ := hO.frzEx; replace hO := hO.frzMany; dsimp only at hO; simp only [FZ] at hO; ((try clear hf); have hf := fa_ hO)
  go_enter Tryz.func63, Tryz.ntmps63
  go_wp2_with (first | ((refine sy_ hO ?_); clear hO; intro w9 hO; (try dsimp only [List.set] at hO); ((try clear hf); have hf := fa_ hO)))
  go_ret
  exact ⟨rfl, hO.toExt⟩
/-- What the law is handed. -/
def VsArg (ra : Option Addr) (rows : List Rw) (aa : Option Addr) (l : List Ac) (w : World) : Prop := LibOk w ∧ ValsAt w ra (rows.flatMap rwC) ∧ ActsAt w aa l
theorem VsArg.base {ra : Option Addr} {rows : List Rw} {aa : Option Addr} {l : List Ac} {w : World} (h : VsArg ra rows aa l w) : Own (fun _ => False) w w [.imm (VsArg ra rows aa l)] :=
  Own.base w _ fun w' hw' => ⟨h.1.up hw', vals_up h.2.1 hw', h.2.2.up (agree_up hw')⟩
/-- What is known between two acts. -/
structure VsInv (j nn frm : Nat) (V : List (ByteArray × List Vn)) (D : List RV) : Prop where
  past : Past nn frm V (rss D)
  now : nn ≤ j
  cnt : cntV V ≤ 50 + 20 * j
  len : V.length ≤ 50 + 20 * j
  rows : ∀ d ∈ D, d.2.2.length ≤ 50 + 20 * j
theorem VsInv.more {j nn frm : Nat} {V : List (ByteArray × List Vn)} {D : List RV} (h : VsInv j nn frm V D) : VsInv (j + 1) nn frm V D :=
  ⟨h.past, by have := h.now; omega, by have := h.cnt; omega, by have := h.len; omega, fun d hd => by have := h.rows d hd; omega⟩
theorem VsInv.dlen {j nn frm : Nat} {V : List (ByteArray × List Vn)} {D : List RV} (h : VsInv j nn frm V D) : D.length = nn + 1 := by
  have := h.past.len
  unfold rss at this
  rwa [List.length_map] at this
theorem rss_get {D : List RV} {i : Nat} (h : i < D.length) : (rss D)[i]'(by unfold rss; simpa using h) = D[i].2.2 := by unfold rss; rw [List.getElem_map]
theorem VsInv.vlen {j nn frm : Nat} {V : List (ByteArray × List Vn)} {D : List RV} (h : VsInv j nn frm V D) : ∀ e ∈ V, e.2.length ≤ 50 + 20 * j := fun e he => Nat.le_trans (cnt_mem he) h.cnt
theorem VsInv.commit {j nn frm : Nat} {V : List (ByteArray × List Vn)} {D : List RV} (h : VsInv j nn frm V D) {C : List Ch} (hd : deedN C = 0) (hC : C.length ≤ 20) (hl : nn < D.length) (a : Option Addr) (c : Nat) : VsInv (j + 1) (nn + 1) frm (commitV nn C V) (D ++ [(a, c, C.foldl appR D[nn].2.2)]) where
  past := by
    have h1 := h.past.commit hd (by unfold rss; simpa using hl)
    rw [rss_get hl] at h1
    unfold rss at h1 ⊢
    rw [List.map_append]
    exact h1
  now := by have := h.now; omega
  cnt := by have := (commit_len nn C V).2; have := h.cnt; omega
  len := by have := (commit_len nn C V).1; have := h.len; omega
  rows := fun d hd => by
    rcases List.mem_append.1 hd with hd | hd
    · have := h.rows d hd; omega
    · rw [List.mem_singleton.1 hd]
      have h1 := apps_len C D[nn].2.2
      have h2 := h.rows _ (List.getElem_mem hl)
      show (C.foldl appR D[nn].2.2).length ≤ _
      omega
theorem VsInv.vac {j nn frm : Nat} {V : List (ByteArray × List Vn)} {D : List RV} (h : VsInv j nn frm V D) (n : Int) (frm' : Nat) (hf : (frm' : Int) = max (frm : Int) (min n nn)) : VsInv (j + 1) nn frm' (vacV n V) D where
  past := h.past.vac n frm' hf
  now := by have := h.now; omega
  cnt := by have := cnt_vac n V; have := h.cnt; omega
  len := by have := vacV_len n V; have := h.len; omega
  rows := fun d hd => by have := h.rows d hd; omega
theorem VsInv.new {rows : List Rw} (h : RUps rows) (hl : rows.length ≤ 50) (a : Option Addr) (c : Nat) : VsInv 0 0 0 (newV rows) [(a, c, rows)] where
  past := Past.new h
  now := Nat.le_refl _
  cnt := by rw [cnt_new]; omega
  len := by unfold newV; rw [List.length_map]; omega
  rows := fun d hd => by rw [List.mem_singleton.1 hd]; exact hl
theorem Tryz.infoRs : (Tryz.prog.info? 22).map (fun i => (i.zero, i.size, i.bytes)) = some (some (.slice none 0 0), 1, 24) := by kernel_rfl
theorem Own.both {S : Nat → Prop} {W w : World} {l l' : List Rs} {φ ψ : World → Prop} (h : Own S W w l) (ht : Takes l [.imm φ, .imm ψ] l') : Own S W w (.imm (fun w => φ w ∧ ψ w) :: .imm φ :: .imm ψ :: l') := by
  have h1 := h.take ht
  simp only [List.cons_append, List.nil_append] at h1
  have h2 := h1.and.again.imp (ψ := ψ) fun _ h => h.2
  have h3 := (h2.pick (.there _ (.here _ _))).again.imp (ψ := φ) fun _ h => h.1
  exact (h3.pick (.there _ (.here _ _)))
end Go.Proofs.YtmknhibaoopjjaaGreatDoor
