/- Texts ReadL of this claim, laid together. -/
import Derived.Test.YtagcmjmcjpjihaaGreatDoorHTa3
import Derived.Test.YtagcmjmcjpjihaaGreatDoorHTa6
import Derived.Test.YtagcmjmcjpjihaaGreatDoorHC37
set_option linter.unusedVariables false
set_option linter.unusedSimpArgs false
namespace Go.Proofs.YtagcmjmcjpjihaaGreatDoor
open Go.RowKit
theorem zIP (a b k:ByteArray):below k (toOf a b)=(below k a&&below k b):=by
 unfold toOf below;cases ha:a.toList.isEmpty<;>cases hb:b.toList.isEmpty<;>simp [ha,hb]
 cases h:slt b a
 ·simp only [Bool.false_eq_true,if_false,ha,Bool.false_or];cases k1:slt k a
  ·rfl
  ·simp [zDB k1 h]
 ·simp only [if_true,hb,Bool.false_or];cases k1:slt k b
  ·simp
  ·simp [zAv k1 h]
theorem zNF (a b:Sp) (k:ByteArray):(a.both b).has k=(a.has k&&b.has k):=by
 unfold Sp.has Sp.both;simp only [zIP];have:(!slt k (if slt a.lo b.lo=true then b.lo else a.lo))=(!slt k a.lo&&!slt k b.lo):=by
  cases h:slt a.lo b.lo
  ·simp only [Bool.false_eq_true,if_false];cases k1:slt k a.lo
   ·simp [zDI k1 h]
   ·simp
  ·simp only [if_true];cases k1:slt k b.lo
   ·cases k2:slt k a.lo
    ·rfl
    ·rw [zAv k2 h] at k1;cases k1
   ·simp
 rw [this];cases slt k a.lo<;>cases slt k b.lo<;>cases below k a.hi<;>cases below k b.hi<;>rfl
theorem zEq (lo hi k:ByteArray):Sp.has ⟨lo,hi⟩ k=hasB lo hi k:=rfl
theorem zJq (k:ByteArray):slt k ⟨#[]⟩=false:=by
 unfold slt;rw [show (⟨#[]⟩:ByteArray).toList=[] from by rw [ByteArray.toList_eq]];cases k.toList<;>rfl
theorem zM8 (x k:ByteArray):Sp.has ⟨⟨#[]⟩,x++nul⟩ k=!slt x k:=by
 unfold Sp.has below;dsimp only;rw [zJq,zDD];have:(x++nul).toList.isEmpty=false:=by rw [toList_append,zEU];simp
 rw [this];simp
