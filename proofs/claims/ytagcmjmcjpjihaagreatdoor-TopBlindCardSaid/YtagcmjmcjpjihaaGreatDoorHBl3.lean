/- Texts Sym, BlindL of this claim, laid together. -/
import Derived.Test.YtagcmjmcjpjihaaGreatDoorHC38
set_option linter.unusedVariables false
set_option linter.unusedSimpArgs false
namespace Go.Proofs.YtagcmjmcjpjihaaGreatDoor
open Go.RowKit
theorem zJf {k v:ByteArray} (hk:KeyOk k) (hv:v.size≤40):chN ⟨k,v,false⟩=0:=by
 unfold chN;rw [if_pos hk,if_neg (fun h=>by cases h.1),if_neg (by dsimp only;omega)]
theorem zI3 {R:List Sp} (s:Sp) (h:R.length<40):zAY R s=0:=by
 unfold zAY;split
 ·rfl
 ·rw [if_neg (by omega)]
variable {rows:List Rw} {K:List ByteArray} {D:List Rw} {r:Nat} {C:List Ch} {R:List Sp}
theorem zGa {k a b:ByteArray}:∀l:List Rw,appF ⟨k,a,false⟩ true l=appF ⟨k,b,false⟩ true l
 | []=>rfl
 | x::l=>by
  have ih:=zGa (k:=k) (a:=a) (b:=b) l;by_cases h:x.key=k
  ·rw [zJa h,zJa h,ih]
  ·rw [zFN h,zFN h,ih]
theorem zNB {k a b:ByteArray}:∀l:List Rw,(appF ⟨k,a,false⟩ false l).length=(appF ⟨k,b,false⟩ false l).length
 | []=>rfl
 | x::l=>by
  have ih:=zNB (k:=k) (a:=a) (b:=b) l;cases hx:slt x.key k with
  | true=>rw [zJt hx,zJt hx,List.length_cons,List.length_cons,ih]
  | false=>
   by_cases h:x.key=k
   ·rw [zJm hx h,zJm hx h,zGa (a:=a) (b:=b) l];rfl
   ·rw [zJr hx h,zJr hx h,zGa (a:=a) (b:=b) l];rfl
theorem zL7 (R:List Rw) (k a b:ByteArray):(appR R ⟨k,a,false⟩).length=(appR R ⟨k,b,false⟩).length:=zNB R
theorem zIn {R:List Rw} (h:RUps R) (k a b:ByteArray):appR (appR R ⟨k,b,false⟩) ⟨k,a,false⟩=appR R ⟨k,a,false⟩:=by
 refine RUps.ext (zBC (zBC h)) (zBC h) fun r=>?_
 unfold appR;simp only [zAi];constructor
 ·rintro (⟨⟨h1,_⟩ | ⟨_,rfl⟩,h3⟩ | h1)
  ·exact .inl ⟨h1,h3⟩
  ·exact absurd rfl h3
  ·exact .inr h1
 ·rintro (⟨h1,h2⟩ | h1)
  ·exact .inl ⟨.inl ⟨h1,h2⟩,h2⟩
  ·exact .inr h1
theorem zHn {R:List Rw} {c:Ch} {m:Nat} (hc:chN c=0) (hm:2≤m):zAl R [c] m=if 40<(appR R c).length then 8 else 0:=by
 have hf:zBW [c]=0:=zD4.2 fun x hx=>by rw [List.mem_singleton.1 hx];exact zDy.1 hc
 unfold zAl;rw [if_neg (by simp),if_neg (by omega),List.foldl_cons,List.foldl_nil];split
 ·rfl
 ·rw [if_neg (by simp;omega)]
theorem QInv.one {c:Ch} (hc:chN c=0):QInv [c] []:=⟨List.pairwise_singleton _ _,by simp,by simp,fun x hx=>by rw [List.mem_singleton.1 hx];exact hc⟩
theorem zG9 {c:Ch} (hc:chN c=0):putN [] c=0∧putL [] c=[c]:=by
 have h0:putN [] c=0:=by unfold putN;rw [if_neg (by omega),if_neg (by rw [show putC [] c=[c] from rfl];simp)]
 exact ⟨h0,by unfold putL;rw [if_pos h0];rfl⟩
theorem zFl (keys:List (List ByteArray)) (s:Nat):zBY keys [] s=true:=by
 unfold zBY;simp
def BeF (c:Core) (D:Nat→Option (Nat×Dv)) (s:Nat):Prop:=(∀t<2,t<s→∃z,D t=some (z,⟨c.nn,[],[]⟩))∧∀t<2,s≤t→D t=none
theorem BeF.step {c:Core} {D:Nat→Option (Nat×Dv)} {s:Nat} (h:BeF c D s) (q:Nat):BeF c (setF D s (some (q,⟨c.nn,[],[]⟩))) (s+1):=
 ⟨fun t ht h1=>by
  by_cases e:t=s
  ·exact ⟨q,by unfold setF;rw [if_pos e]⟩
  ·unfold setF;rw [if_neg e];exact h.1 t ht (by omega),fun t ht h1=>by unfold setF;rw [if_neg (by omega)];exact h.2 t ht (by omega)⟩
def BlF (c:Core) (key:ByteArray) (v:Nat→ByteArray) (D:Nat→Option (Nat×Dv)) (s:Nat):Prop:=
 (∀t<2,t<s→∃z,D t=some (z,⟨c.nn,[⟨key,v t,false⟩],[]⟩))∧∀t<2,s≤t→∃z,D t=some (z,⟨c.nn,[],[]⟩)
theorem BlF.step {c:Core} {key:ByteArray} {v:Nat→ByteArray} {D:Nat→Option (Nat×Dv)} {s:Nat} (h:BlF c key v D s) (q:Nat):BlF c key v (setF D s (some (q,⟨c.nn,[⟨key,v s,false⟩],[]⟩))) (s+1):=
 ⟨fun t ht h1=>by
  by_cases e:t=s
  ·subst e;exact ⟨q,by unfold setF;rw [if_pos rfl]⟩
  ·unfold setF;rw [if_neg e];exact h.1 t ht (by omega),fun t ht h1=>by unfold setF;rw [if_neg (by omega)];exact h.2 t ht (by omega)⟩
