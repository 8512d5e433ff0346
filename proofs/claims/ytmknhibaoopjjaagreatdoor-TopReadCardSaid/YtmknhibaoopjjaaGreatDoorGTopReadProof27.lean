/- Texts Ver4 of this claim, laid together. -/
import Derived.Test.YtmknhibaoopjjaaGreatDoorGTopReadProof14
import Derived.Test.YtmknhibaoopjjaaGreatDoorGTopReadProof25
set_option linter.unusedVariables false
set_option linter.unusedSimpArgs false
namespace Go.Proofs.YtmknhibaoopjjaaGreatDoor
open Go.RowKit
/-- A deed's fault, from a change on that follows a key. -/
noncomputable def deedFrom : Option ByteArray → List Ch → Nat
  | _, [] => 0
  | p, c :: l => if chN c ≠ 0 then chN c else if (match p with | none => false | some k => !slt k c.key) then 3 else deedFrom (some c.key) l
noncomputable def deedN (C : List Ch) : Nat := deedFrom none C
def prv (C : List Ch) (i : Nat) : Option ByteArray := if i = 0 then none else (C[i - 1]?).map Ch.key
def putV (n : Nat) : List (ByteArray × List Vn) → Ch → List (ByteArray × List Vn)
  | [], c => [(c.key, [⟨n, c.val, c.gone⟩])]
  | e :: V, c => if e.1 = c.key then (e.1, e.2 ++ [⟨n, c.val, c.gone⟩]) :: V else e :: putV n V c
noncomputable def commitV (nn : Nat) (C : List Ch) (V : List (ByteArray × List Vn)) : List (ByteArray × List Vn) := if deedN C = 0 then C.foldl (putV (nn + 1)) V else V
noncomputable def comR (nn : Nat) (C : List Ch) : Nat := if deedN C = 0 then nn + 1 else 0
noncomputable def comN (nn : Nat) (C : List Ch) : Nat := if deedN C = 0 then nn + 1 else nn
theorem com_no {nn : Nat} {C : List Ch} {V : List (ByteArray × List Vn)} (h : deedN C ≠ 0) : comR nn C = 0 ∧ comN nn C = nn ∧ commitV nn C V = V := by
  unfold comR comN commitV
  rw [if_neg h, if_neg h, if_neg h]
  exact ⟨rfl, rfl, rfl⟩
theorem com_yes {nn : Nat} {C : List Ch} {V : List (ByteArray × List Vn)} (h : deedN C = 0) : comR nn C = nn + 1 ∧ comN nn C = nn + 1 ∧ commitV nn C V = C.foldl (putV (nn + 1)) V := by
  unfold comR comN commitV
  rw [if_pos h, if_pos h, if_pos h]
  exact ⟨rfl, rfl, rfl⟩
theorem deed_bad {p : Option ByteArray} {c : Ch} {l : List Ch} (h : chN c ≠ 0) : deedFrom p (c :: l) = chN c := by unfold deedFrom; rw [if_pos h]
theorem deed_first {c : Ch} {l : List Ch} (h : chN c = 0) : deedFrom none (c :: l) = deedFrom (some c.key) l := by
  rw [deedFrom, if_neg (fun h' => h' h)]
  rfl
theorem deed_up {k : ByteArray} {c : Ch} {l : List Ch} (h : chN c = 0) (h2 : slt k c.key = true) : deedFrom (some k) (c :: l) = deedFrom (some c.key) l := by
  rw [deedFrom, if_neg (fun h' => h' h), if_neg (by simp [h2])]
theorem deed_shape {k : ByteArray} {c : Ch} {l : List Ch} (h : chN c = 0) (h2 : slt k c.key = false) : deedFrom (some k) (c :: l) = 3 := by
  rw [deedFrom, if_neg (fun h' => h' h), if_pos (by simp [h2])]
theorem putV_new {n : Nat} {c : Ch} : ∀ {L : List VE}, (∀ x ∈ L, x.key ≠ c.key) → putV n (L.map VE.kv) c = L.map VE.kv ++ [(c.key, [⟨n, c.val, c.gone⟩])]
  | [], _ => rfl
  | x :: L, h => by
    rw [List.map_cons, putV, if_neg (show ¬ (VE.kv x).1 = c.key from h x (List.mem_cons_self ..)), putV_new fun y hy => h y (List.mem_cons_of_mem _ hy)]
    rfl
theorem putV_at {n : Nat} {c : Ch} {e e' : VE} {B : List VE} (hk : e.key = c.key) (hk' : e'.key = c.key) (hv : e'.vs = e.vs ++ [⟨n, c.val, c.gone⟩]) : ∀ {A : List VE}, (∀ x ∈ A, x.key ≠ c.key) → putV n ((A ++ e :: B).map VE.kv) c = (A ++ e' :: B).map VE.kv
  | [], _ => by
    rw [List.nil_append, List.map_cons, putV, if_pos (show (VE.kv e).1 = c.key from hk), List.nil_append, List.map_cons]
    have : ((VE.kv e).1, (VE.kv e).2 ++ [⟨n, c.val, c.gone⟩]) = VE.kv e' := by
      unfold VE.kv; rw [hv, hk, hk']
    rw [this]
  | x :: A, h => by
    have h1 := putV_at (B := B) hk hk' hv (A := A) fun y hy => h y (List.mem_cons_of_mem _ hy)
    rw [List.cons_append, List.map_cons, putV, if_neg (show ¬ (VE.kv x).1 = c.key from h x (List.mem_cons_self ..)), h1]
    rfl
end Go.Proofs.YtmknhibaoopjjaaGreatDoor
