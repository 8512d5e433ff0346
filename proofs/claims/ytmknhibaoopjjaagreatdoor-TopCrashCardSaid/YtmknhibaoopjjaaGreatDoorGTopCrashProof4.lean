/- Texts Sl, SlD of this claim, laid together. -/
import Derived.Test.YtmknhibaoopjjaaGreatDoorGTopCrashProof3
import Derived.Lib.AppendZerosOnto
import Derived.Lib.Overlaps
set_option linter.unusedVariables false
set_option linter.unusedSimpArgs false
namespace Go.Proofs.YtmknhibaoopjjaaGreatDoor
open Go.RowKit
section
variable {P : Program} {S : Nat → Prop} {W w w' : World} {l l' l0 l1 : List Rs} {ops : Array Oper} {rest : List Oper} {a : Act} {Q : Exit → Act → World → Prop} {c : Code} {o : Oper}
/-- Two things of the call's own lie apart. -/
theorem Own.apart {e t : TypeId} {size n cap b g : Nat} {cs xs : List Value} (hO : Own S W w l) (hp : Pick l (Var b cs t) l0) (hp2 : Pick l0 (Row2 e size (some ⟨g, 0, none⟩) n cap xs) l1) (hn : 0 < n) (hs : 0 < size) :
    b ≠ g ∧ w.shape? b = some (t, cs.length) ∧ (∃ k, w.shape? g = some (e, k) ∧ k ≠ 0) ∧ ∀ k, w.frozen? ⟨b, k, none⟩ = false := by
  have h := (hO.pick hp).pick (.there _ hp2)
  obtain ⟨hc, M, Z, ⟨M1, M2, ⟨h1, k1⟩, ⟨M3, M4, ⟨h3, k3⟩, _, s3, _, _⟩, s1, s2, d⟩, _⟩ := h
  have hg := k1 g rfl
  refine ⟨fun e => d g hg (s3 g (e ▸ k3)), by simp [World.shape?, h3], ?_, fun k => by simp [World.frozen?, h3]⟩
  rcases h1.2 with ⟨hv, _⟩ | ⟨g', c, cur, hv, hb, hgg, hnc, hcm, hcs, ht⟩
  · cases hv
  injection hv with q1 q2 q3
  injection q1 with q1
  injection q1 with q1
  subst q1
  refine ⟨cur.size, by simp [World.shape?, hgg], ?_⟩
  have := Nat.mul_pos (show 0 < c by omega) hs
  omega
end
end Go.Proofs.YtmknhibaoopjjaaGreatDoor
namespace Go.Proofs.YtmknhibaoopjjaaGreatDoor
open Go.RowKit
section
variable {P : Program} {S : Nat → Prop} {W w w' : World} {l l' l0 l1 : List Rs} {ops : Array Oper} {rest : List Oper} {a : Act} {Q : Exit → Act → World → Prop} {o : Oper}
end
end Go.Proofs.YtmknhibaoopjjaaGreatDoor
