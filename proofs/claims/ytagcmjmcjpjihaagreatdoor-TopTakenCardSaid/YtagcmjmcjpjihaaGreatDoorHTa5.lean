/- Texts KeyLaw+, Nat+ of this claim, laid together. -/
import Derived.Test.YtagcmjmcjpjihaaGreatDoorHC25
set_option linter.unusedVariables false
set_option linter.unusedSimpArgs false
namespace Go.Proofs.YtagcmjmcjpjihaaGreatDoor
open Go.RowKit
theorem zUR {a:ByteArray} (h:zAN a):KeyOk (queB a):=.inl ⟨a,h,.inr rfl⟩
theorem zUB {a:ByteArray} (h:zAN a) {n:Nat} (hn:n<1000000):KeyOk (msgB a n):=.inr ⟨a,n,h,hn,rfl⟩
theorem zVA (l:List UInt8) (c:UInt8):valL (l++[c])=10*valL l+(c.toNat-48):=by unfold valL;rw [List.foldl_append];rfl
theorem zVR (n:Nat):valL (Lib.decDigits n)=n:=by
 induction n using Nat.strongRecOn with
 | ind n ih=>
  by_cases h10:n<10
  ·rw [zD3 n h10];show 10*0+((d8 n).toNat-48)=n;rw [zA2 n h10];omega
  ·rw [zCB n h10,zVA,ih (n / 10) (by omega),zA2 _ (by omega)];omega
