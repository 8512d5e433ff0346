/- Texts VersionsSays of this claim, laid together. -/
import Derived.Test.YtmknhibaoopjjaaGreatDoorGTopDeadProof27
import Derived.Test.YtmknhibaoopjjaaGreatDoorGTopDeadProof12
import Derived.Test.YtmknhibaoopjjaaGreatDoorGTopDeadProof3
set_option linter.unusedVariables false
set_option linter.unusedSimpArgs false
namespace Go.Proofs.YtmknhibaoopjjaaGreatDoor
open Go.RowKit
abbrev RV := Option Addr × Nat × List Rw
def rv (d : RV) : Value := .slice d.1 d.2.2.length d.2.1
def rss (D : List RV) : List (List Rw) := D.map fun d => d.2.2
theorem Own.rowIm {S : Nat → Prop} {W w : World} {l l' : List Rs} {e : TypeId} {size : Nat} {a : Option Addr} {n c : Nat} {xs : List Value} (h : Own S W w l) (hp : Pick l (Row2 e size a n c xs) l') : Own S W w (.imm (fun w => ValsAt w a xs) :: l') :=
  Own.toImm (r := Row2 e size a n c xs) (φ := fun w => ValsAt w a xs) (fun w h => h.1) (h.pick hp)
/-- What the law is handed. -/
def VsArg (ra : Option Addr) (rows : List Rw) (aa : Option Addr) (l : List Ac) (w : World) : Prop := LibOk w ∧ ValsAt w ra (rows.flatMap rwC) ∧ ActsAt w aa l
theorem VsArg.base {ra : Option Addr} {rows : List Rw} {aa : Option Addr} {l : List Ac} {w : World} (h : VsArg ra rows aa l w) : Own (fun _ => False) w w [.imm (VsArg ra rows aa l)] :=
  Own.base w _ fun w' hw' => ⟨h.1.up hw', vals_up h.2.1 hw', h.2.2.up (agree_up hw')⟩
/-- What is known between two acts. -/
structure VsInv (j nn frm : Nat) (V : List (ByteArray × List Vn)) (D : List RV) : Prop where
  past : Past nn frm V (rss D)
  now : nn ≤ j
  cnt : cntV V ≤ 50 + 20 * j
  len : V.length ≤ 50 + 20 * j
  rows : ∀ d ∈ D, d.2.2.length ≤ 50 + 20 * j
theorem VsInv.more {j nn frm : Nat} {V : List (ByteArray × List Vn)} {D : List RV} (h : VsInv j nn frm V D) : VsInv (j + 1) nn frm V D :=
  ⟨h.past, by have := h.now; omega, by have := h.cnt; omega, by have := h.len; omega, fun d hd => by have := h.rows d hd; omega⟩
theorem VsInv.new {rows : List Rw} (h : RUps rows) (hl : rows.length ≤ 50) (a : Option Addr) (c : Nat) : VsInv 0 0 0 (newV rows) [(a, c, rows)] where
  past := Past.new h
  now := Nat.le_refl _
  cnt := by rw [cnt_new]; omega
  len := by unfold newV; rw [List.length_map]; omega
  rows := fun d hd => by rw [List.mem_singleton.1 hd]; exact hl
theorem Own.both {S : Nat → Prop} {W w : World} {l l' : List Rs} {φ ψ : World → Prop} (h : Own S W w l) (ht : Takes l [.imm φ, .imm ψ] l') : Own S W w (.imm (fun w => φ w ∧ ψ w) :: .imm φ :: .imm ψ :: l') := by
  have h1 := h.take ht
  simp only [List.cons_append, List.nil_append] at h1
  have h2 := h1.and.again.imp (ψ := ψ) fun _ h => h.2
  have h3 := (h2.pick (.there _ (.here _ _))).again.imp (ψ := φ) fun _ h => h.1
  exact (h3.pick (.there _ (.here _ _)))
end Go.Proofs.YtmknhibaoopjjaaGreatDoor
