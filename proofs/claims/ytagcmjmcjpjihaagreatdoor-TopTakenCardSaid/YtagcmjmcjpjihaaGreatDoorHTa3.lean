/- Texts Ch+ of this claim, laid together. -/
import Derived.Test.YtagcmjmcjpjihaaGreatDoorHC8
set_option linter.unusedVariables false
set_option linter.unusedSimpArgs false
namespace Go.Proofs.YtagcmjmcjpjihaaGreatDoor
open Go.RowKit
theorem zVF (l:List Ch) (c:Ch):zCS (putC l c) c.key=some c:=by
 unfold putC zCS;rw [List.find?_append];have:=zMY l c.key;unfold zCS at this;rw [this];simp
theorem zUJ {l:List Ch} {k:ByteArray} {p:Ch→Bool} (hp:∀x∈l,x.key=k→p x=true):zCS (l.filter p) k=zCS l k:=by
 unfold zCS;rw [List.find?_filter]
 induction l with
 | nil=>rfl
 | cons x l ih=>
  have ih:=ih fun y hy=>hp y (List.mem_cons_of_mem _ hy)
  by_cases hk:x.key=k
  ·simp [hp x (List.mem_cons_self ..) hk,hk]
  ·simp [hk];simpa using ih
theorem zUY {l:List Ch} {c:Ch} {k:ByteArray} (hk:k≠c.key):zCS (putC l c) k=zCS l k:=by
 have h0:decide (c.key=k)=false:=by simpa using fun e=>hk e.symm
 unfold putC;have e:zCS (low l c.key++c::high l c.key) k=(zCS (low l c.key) k).or (zCS (high l c.key) k):=by
  unfold zCS;rw [List.find?_append,List.find?_cons,h0]
 rw [e];rcases zCY k c.key with h | h | h
 ·rw [show zCS (low l c.key) k=zCS l k from zUJ fun x _ hx=>by rw [hx];exact h];have:zCS (high l c.key) k=none:=List.find?_eq_none.2 fun x hx=>by
   have:=(List.mem_filter.1 hx).2;intro he;rw [of_decide_eq_true he,zBR h] at this;cases this
  rw [this];cases zCS l k<;>rfl
 ·exact absurd h hk
 ·have:zCS (low l c.key) k=none:=List.find?_eq_none.2 fun x hx=>by
   have:=(List.mem_filter.1 hx).2;intro he;rw [of_decide_eq_true he,zBR h] at this;cases this
  rw [this,show zCS (high l c.key) k=zCS l k from zUJ fun x _ hx=>by rw [hx];exact h];rfl
theorem zUg {l:List Ch} {k:ByteArray} {x:Ch} (h:zCS l k=some x):x∈l∧x.key=k:=
 ⟨List.mem_of_find?_eq_some h,by simpa using List.find?_some h⟩
