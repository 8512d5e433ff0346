/- Texts Sl, SlD of this claim, laid together. -/
import Derived.Test.YtagcmjmcjpjihaaGreatDoorHC3
import Derived.Lib.AppendZerosOnto
import Derived.Lib.Overlaps
set_option linter.unusedVariables false
set_option linter.unusedSimpArgs false
namespace Go.Proofs.YtagcmjmcjpjihaaGreatDoor
open Go.RowKit
theorem zKu {P:Program} (w:World) (dT sT ty elem:TypeId) (size:Nat) (g o dLen dCap:Nat) (a:Addr) (sLen sCap:Nat) (cur:Array Value) (t:TypeId) (cs:List Value)
 (hu:P.underlying dT=some (.slice elem)) (hs:(P.info? elem).map (·.size)=some size)
 (hg:w.heap[g]?=some (.cells cur t (0,0))) (hn:cs.length=Nat.min sLen dLen*size)
 (hsrc:∀j v,cs[j]?=some v→w.cell? (a.add j)=some v) (hfit:o+cs.length≤cur.size) (h1:∀v∈cs,v.oneCell'=true) :
 (Builtin.copy_ #[dT,sT] ty #[.slice (some ⟨g,o,none⟩) dLen dCap,.slice (some a) sLen sCap]).run P w =
  .ok (goInt (Nat.min sLen dLen)) (w.setRow g (cur.toList.take o++cs++cur.toList.drop (o+cs.length)).toArray):=by
 have hl:=run_loadCells_list (P:=P) w a cs hsrc;have hst:=run_storeCells_at P g o t cs 0 cur w hg (by simpa using hfit) h1;cases hq:P.info? elem with
 | none=>simp [hq] at hs
 | some i=>
  have hi:i.size=size:=by simpa [hq] using hs
  simp [Builtin.copy_,run_underlying hu,Builtin.lenOf,Builtin.firstCells,sizeOf,typeInfo,hq,hi,←hn,hl,hst]
section
variable {P:Program} {S:Nat→Prop} {W w w':World} {l l' l0 l1:List Rs} {ops:Array Oper} {rest:List Oper} {a:Act} {Q:Exit→Act→World→Prop} {c:Code} {o:Oper}
theorem zA9 (hO:Own S W w l) {e:TypeId} {size:Nat} {g n cap:Nat} {xs:List Value} (hp:Pick l (Row2 e size (some ⟨g,0,none⟩) n cap xs) l0) (hgd:o.guard=none) (d s:Operand) (dT sT:TypeId)
 (ho:o.op=.call { callee:=.builtin .copy,args:=#[d,s],argTypes:=#[dT,sT] }) (hu:P.underlying dT=some (.slice e)) (hsz:(P.info? e).map (·.size)=some size)
 (off dLen dCap:Nat) (ad:Addr) (sLen sCap:Nat) (hd:a.eval d=.slice (some ⟨g,off,none⟩) dLen dCap) (hs:a.eval s=.slice (some ad) sLen sCap)
 (cs:List Value) (hn:cs.length=Nat.min sLen dLen*size) (hsrc:∀j v,cs[j]?=some v→w.cell? (ad.add j)=some v) (hfit:off+cs.length≤n*size) (h1:∀v∈cs,v.oneCell'=true)
 (h:∀w',Own S W w' (Row2 e size (some ⟨g,0,none⟩) n cap (splice xs off cs)::l0)→wpList P ops Q rest (a.put o.dst (goInt (Nat.min sLen dLen))) w'):wpList P ops Q (o::rest) a w:=by
 obtain ⟨M,Z,⟨h2,h3⟩,h4,_,k⟩:=(hO.pick hp).turn1;have hg:M g:=h3 g rfl;rcases h2.2 with ⟨hv,_⟩ | ⟨g',c,cur,hv,hb,hgg,hnc,hcm,hcs,ht⟩
 ·cases hv
 injection hv with q1 q2 q3
 injection q1 with q1
 injection q1 with q1
 subst q1;subst q3;have hxs:xs.length=n*size:=h2.1;have hnc2:n*size≤cap*size:=Nat.mul_le_mul_right _ hnc;refine wpList_plain hgd fun K hK=>?_
 unfold Oper.wp execOp;have hr:=zKu (P:=P) w dT sT o.type e size g off dLen dCap ad sLen sCap cur e cs hu hsz hgg hn hsrc (by omega) h1;simp only [ho,resolve,invoke,builtin,Sem.run_bind,Sem.run_pure,Result.andThen_ok,List.map_toArray,List.map_cons,List.map_nil,hd,hs,hr];have hheap:=setRow_heap w g cur (cur.toList.take off++cs++cur.toList.drop (off+cs.length)).toArray e (0,0) hgg;refine hK _ _ (h _ (k _ _ M ⟨rfl,rfl,rfl,by simp [World.setRow],fun k hk hM=>setRow_other w g k _ (fun e=>hM (by subst e;exact hg))⟩ (fun b h=>.inl h) (fun b hb=>by simpa [World.setRow] using (h4 b hb).1) ⟨⟨?_,.inr ⟨g,cap,_,rfl,hb,hheap,hnc,hcm,?_,?_⟩⟩,h3⟩))
 ·have:(splice xs off cs).length=xs.length:=length_splice xs off cs (by omega);omega
 ·have hl:cur.toList.length=cur.size:=by simp
  rw [←hcs];simp;omega
 ·have hl:cur.toList.length=cur.size:=by simp
  generalize n*size=N at *;generalize cap*size=C at *;subst ht;unfold splice;rw [List.append_assoc,List.take_append,List.take_append];have e1:(List.take N (cur.toList.take off))=List.take off (List.take N cur.toList):=by rw [List.take_take,List.take_take,Nat.min_comm]
  rw [e1,List.length_take,hl,Nat.min_eq_left (by omega),List.take_of_length_le (l:=cs) (by omega),List.take_drop]
  congr 3
  rw [show off+cs.length+(N-off-cs.length)=N from by omega]
theorem Own.rowWiden {e:TypeId} {size n cap:Nat} {g:Nat} {xs:List Value} (m:Nat) (hm:n+m≤cap) (h:Own S W w (Row2 e size (some ⟨g,0,none⟩) n cap xs::l)):∃sp:List Value,sp.length=m*size∧Own S W w (Row2 e size (some ⟨g,0,none⟩) (n+m) cap (xs++sp)::l):=by
 obtain ⟨M,Z,⟨h1,h3⟩,h4,_,k⟩:=h.turn1;rcases h1.2 with ⟨hv,_⟩ | ⟨g',c,cur,hv,hb,hgg,hnc,hcm,hcs,ht⟩
 ·cases hv
 injection hv with q1 q2 q3
 injection q1 with q1
 injection q1 with q1
 subst q1;subst q3;have hl:cur.toList.length=cur.size:=by simp
 have hle:(n+m)*size≤cap*size:=Nat.mul_le_mul_right _ hm;have hd:(n+m)*size=n*size+m*size:=Nat.add_mul ..;refine ⟨(cur.toList.drop (n*size)).take (m*size),by rw [List.length_take,List.length_drop,hl];omega,?_⟩;refine k w _ M (Chg.refl _ _) (fun b h=>.inl h) (fun b hb=>(h4 b hb).1) ⟨⟨?_,.inr ⟨g,cap,cur,rfl,hb,hgg,hm,hcm,hcs,?_⟩⟩,h3⟩
 ·rw [List.length_append,h1.1,List.length_take,List.length_drop,hl];omega
 ·rw [hd,List.take_add,ht]
theorem Own.apart {e t:TypeId} {size n cap b g:Nat} {cs xs:List Value} (hO:Own S W w l) (hp:Pick l (Var b cs t) l0) (hp2:Pick l0 (Row2 e size (some ⟨g,0,none⟩) n cap xs) l1) (hn:0<n) (hs:0<size) :
 b≠g∧w.shape? b=some (t,cs.length)∧(∃k,w.shape? g=some (e,k)∧k≠0)∧∀k,w.frozen? ⟨b,k,none⟩=false:=by
 have h:=(hO.pick hp).pick (.there _ hp2);obtain ⟨hc,M,Z,⟨M1,M2,⟨h1,k1⟩,⟨M3,M4,⟨h3,k3⟩,_,s3,_,_⟩,s1,s2,d⟩,_⟩:=h;have hg:=k1 g rfl;refine ⟨fun e=>d g hg (s3 g (e ▸ k3)),by simp [World.shape?,h3],?_,fun k=>by simp [World.frozen?,h3]⟩;rcases h1.2 with ⟨hv,_⟩ | ⟨g',c,cur,hv,hb,hgg,hnc,hcm,hcs,ht⟩
 ·cases hv
 injection hv with q1 q2 q3
 injection q1 with q1
 injection q1 with q1
 subst q1;refine ⟨cur.size,by simp [World.shape?,hgg],?_⟩;have:=Nat.mul_pos (show 0<c by omega) hs;omega
theorem zDu (hO:Own S W w l) (hgd:o.guard=none) (s x:Operand) (t tn:TypeId) (ho:o.op=.call { callee:=.builtin .append,args:=#[s,x],argTypes:=#[t,tn] })
 {e:TypeId} (i:TypeInfo) (z:Value) (size bytes:Nat) (ht:P.underlying t=some (.slice e)) (kn:IntKind) (htn:P.underlying tn=some (.int kn)) (hi:P.info? e=some i) (hz:i.zero=some z)
 (hsize:i.size=size) (hby:i.bytes=bytes) (hzs:z.cells.size=size) (hsz:0<size) (g sLen sCap:Nat) (hs:a.eval s=.slice (some ⟨g,0,none⟩) sLen sCap)
 (olds:List Value) (hl:olds.length=sLen*size) (hc:∀j u,olds[j]?=some u→w.cell? ⟨g,0+j,none⟩=some u) (kq:IntKind) (k:Nat) (hx:a.eval x=.int kq k) (h0:0<k)
 (hg:sCap<sLen+k) (h63:sLen+k≤1000000) (h48:(sLen+k)*bytes≤140737488355328)
 (h:∀kg kc w',Own S W w' (Row2 e size (some ⟨kg,0,none⟩) (sLen+k) kc (olds++(Builtin.zeroCells z.cells k).toList)::l)→wpList P ops Q rest (a.put o.dst (.slice (some ⟨kg,0,none⟩) (sLen+k) kc)) w'):wpList P ops Q (o::rest) a w:=by
 subst hsize hby;have hold:(Builtin.firstCells i.size sLen (.slice (some ⟨g,0,none⟩) sLen sCap)).run P w.drew=.ok olds.toArray w.drew:=
  run_firstCells_some w.drew i.size sLen ⟨g,0,none⟩ sLen sCap olds hl (fun j v hj=>by rw [zBd];exact hc j v hj)
 have h48':k*i.bytes≤281474976710656:=by
  have:k*i.bytes≤(sLen+k)*i.bytes:=Nat.mul_le_mul_right _ (by omega);omega
 have hr:=Lib.run_append_grow_zeros w t tn o.type e i z kq kn ht htn hi hz (some ⟨g,0,none⟩) sLen sCap olds hold k h0 hsz hg (by omega) h48' (growslice_fits hg h48);have hge:=grownCap_ge w (sLen+k) sCap e;have hle:=grownCap_le_maxLen w (sLen+k) sCap e (by unfold maxLen;omega);generalize grownCap w (sLen+k) sCap e=G at *;have hzc:∀n,(Builtin.zeroCells z.cells n).size=n*i.size:=fun n=>by simp [Builtin.zeroCells,hzs]
 obtain ⟨cur,hcur⟩:∃cur,cur=olds.toArray++Builtin.zeroCells z.cells k++Builtin.zeroCells z.cells (G-(sLen+k)):=⟨_,rfl⟩
 rw [←hcur] at hr;refine wpList_plain hgd fun K hK=>?_
 unfold Oper.wp execOp;simp only [ho,resolve,invoke,builtin,Sem.run_bind,Sem.run_pure,Result.andThen_ok,List.map_toArray,List.map_cons,List.map_nil,hs,hx,hr];have hx1:Ext w (w.drew.alloc (.cells cur e)):=(Ext.drew_self w).alloc _;refine hK _ _ (h _ G _ (hO.new hx1 (M':=fun b=>b=w.heap.size) (fun b hb=>by rw [hb];simp [World.alloc]) ⟨⟨?_,.inr ⟨w.heap.size,G,cur,rfl,Nat.zero_le _,?_,hge,hle,?_,?_⟩⟩,fun b hb=>by simp [Value.ownBlock] at hb;exact hb.symm⟩))
 ·rw [List.length_append,hl,Array.length_toList,hzc,Nat.add_mul]
 ·exact heap_alloc_new w.drew _
 ·rw [hcur];simp only [Array.size_append,List.size_toArray,hzc,hl];rw [←Nat.add_mul,←Nat.add_mul]
  congr 1;omega
 ·rw [hcur,Array.toList_append,Array.toList_append];have e1:(sLen+k)*i.size=(olds++(Builtin.zeroCells z.cells k).toList).length:=by rw [List.length_append,hl,Array.length_toList,hzc,Nat.add_mul]
  rw [e1];exact List.take_left
end
theorem zLA {P:Program} (w:World) (t ty e:TypeId) (i:TypeInfo) (size:Nat) (ht:P.underlying t=some (.slice e)) (hi:P.info? e=some i) (hs:i.size=size) (g n m off c cap:Nat) (cur:Array Value) (et:TypeId) (cs:List Value)
 (hg:w.heap[g]?=some (.cells cur et (0,0))) (hl:cs.length=m*size) (hsrc:∀j v,cs[j]?=some v→w.cell? ⟨g,off+j,none⟩=some v) (hcap:n+m≤cap) (hfit:n*size+cs.length≤cur.size) (h1:∀v∈cs,v.oneCell'=true) :
 (Builtin.append_ #[t,t] ty #[.slice (some ⟨g,0,none⟩) n cap,.slice (some ⟨g,off,none⟩) m c]).run P w =
  .ok (.slice (some ⟨g,0,none⟩) (n+m) cap) (w.setRow g (cur.toList.take (n*size)++cs++cur.toList.drop (n*size+cs.length)).toArray):=by
 have hfc:=run_firstCells_some (P:=P) w i.size m ⟨g,off,none⟩ m c cs (by rw [hs];exact hl) (fun j v hj=>by rw [zBd];exact hsrc j v hj);have hst:=run_storeCells_at P g (n*size) et cs 0 cur w hg (by simpa using hfit) h1;simp only [Nat.add_zero] at hst;have hadd:(⟨g,0,none⟩:Addr).add (n*i.size)=⟨g,n*size,none⟩:=by rw [zBd,Nat.zero_add,hs]
 simp [Builtin.append_,run_underlying ht,sizeOf,typeInfo,hi,Builtin.lenOf,hcap,hfc,hadd,hst]
theorem zLa {P:Program} (w:World) (t ty e:TypeId) (i:TypeInfo) (z:Value) (ht:P.underlying t=some (.slice e)) (hi:P.info? e=some i) (hz:i.zero=some z) (g m off c:Nat) (cur:Array Value) (et:TypeId) (hm:0<m)
 (hg:w.heap[g]?=some (.cells cur et (0,0))) (hfit:off+(Builtin.zeroCells z.cells m).toList.length≤cur.size) (h1:∀v∈(Builtin.zeroCells z.cells m).toList,v.oneCell'=true) :
 (Builtin.clear_ #[t] ty #[.slice (some ⟨g,off,none⟩) m c]).run P w =
  .ok (.tuple #[]) (w.setRow g (cur.toList.take off++(Builtin.zeroCells z.cells m).toList++cur.toList.drop (off+(Builtin.zeroCells z.cells m).toList.length)).toArray):=by
 have hst:=run_storeCells_at P g off et (Builtin.zeroCells z.cells m).toList 0 cur w hg (by simpa using hfit) h1;simp only [Nat.add_zero] at hst;obtain ⟨m,rfl⟩:∃k,m=k+1:=⟨m-1,by omega⟩
 simp [Builtin.clear_,run_underlying ht,zeroValue,typeInfo,hi,hz,hst]
section
variable {P:Program} {S:Nat→Prop} {W w w':World} {l l' l0 l1:List Rs} {ops:Array Oper} {rest:List Oper} {a:Act} {Q:Exit→Act→World→Prop} {o:Oper}
theorem Own.splice1 {e:TypeId} {size g n cap:Nat} {xs:List Value} (hO:Own S W w l) (hp:Pick l (Row2 e size (some ⟨g,0,none⟩) n cap xs) l0) (off:Nat) (cs:List Value) (hfit:off+cs.length≤n*size) :
 ∃cur:Array Value,w.heap[g]?=some (.cells cur e (0,0))∧off+cs.length≤cur.size∧n≤cap∧Own S W (w.setRow g (cur.toList.take off++cs++cur.toList.drop (off+cs.length)).toArray) (Row2 e size (some ⟨g,0,none⟩) n cap (splice xs off cs)::l0):=by
 obtain ⟨M,Z,⟨h2,h3⟩,h4,_,k⟩:=(hO.pick hp).turn1;have hg:M g:=h3 g rfl;rcases h2.2 with ⟨hv,_⟩ | ⟨g',c,cur,hv,hb,hgg,hnc,hcm,hcs,ht⟩
 ·cases hv
 injection hv with q1 q2 q3
 injection q1 with q1
 injection q1 with q1
 subst q1;subst q3;have hxs:xs.length=n*size:=h2.1;have hnc2:n*size≤cap*size:=Nat.mul_le_mul_right _ hnc;have hheap:=setRow_heap w g cur (cur.toList.take off++cs++cur.toList.drop (off+cs.length)).toArray e (0,0) hgg;refine ⟨cur,hgg,by omega,hnc,k _ _ M ⟨rfl,rfl,rfl,by simp [World.setRow],fun k hk hM=>setRow_other w g k _ (fun e=>hM (by subst e;exact hg))⟩ (fun b h=>.inl h) (fun b hb=>by simpa [World.setRow] using (h4 b hb).1) ⟨⟨?_,.inr ⟨g,cap,_,rfl,hb,hheap,hnc,hcm,?_,?_⟩⟩,h3⟩⟩
 ·have:(splice xs off cs).length=xs.length:=length_splice xs off cs (by omega);omega
 ·have hl:cur.toList.length=cur.size:=by simp
  rw [←hcs];simp;omega
 ·have hl:cur.toList.length=cur.size:=by simp
  generalize n*size=N at *;generalize cap*size=C at *;subst ht;unfold splice;rw [List.append_assoc,List.take_append,List.take_append];have e1:(List.take N (cur.toList.take off))=List.take off (List.take N cur.toList):=by rw [List.take_take,List.take_take,Nat.min_comm]
  rw [e1,List.length_take,hl,Nat.min_eq_left (by omega),List.take_of_length_le (l:=cs) (by omega),List.take_drop]
  congr 3
  rw [show off+cs.length+(N-off-cs.length)=N from by omega]
theorem zEp (hO:Own S W w l) {e:TypeId} {size g n cap:Nat} {xs:List Value} (hp:Pick l (Row2 e size (some ⟨g,0,none⟩) n cap xs) l0) (hgd:o.guard=none) (s x:Operand) (t:TypeId)
 (ho:o.op=.call { callee:=.builtin .append,args:=#[s,x],argTypes:=#[t,t] }) (i:TypeInfo) (ht:P.underlying t=some (.slice e)) (hi:P.info? e=some i) (hsize:i.size=size)
 (k m c off:Nat) (hs:a.eval s=.slice (some ⟨g,0,none⟩) k cap) (hx:a.eval x=.slice (some ⟨g,off,none⟩) m c)
 (cs:List Value) (hl:cs.length=m*size) (hsrc:∀j v,cs[j]?=some v→w.cell? ⟨g,off+j,none⟩=some v) (hkm:k+m≤n) (h1:∀v∈cs,v.oneCell'=true)
 (h:∀w',Own S W w' (Row2 e size (some ⟨g,0,none⟩) n cap (splice xs (k*size) cs)::l0)→wpList P ops Q rest (a.put o.dst (.slice (some ⟨g,0,none⟩) (k+m) cap)) w'):wpList P ops Q (o::rest) a w:=by
 have hkm2:(k+m)*size≤n*size:=Nat.mul_le_mul_right _ hkm;rw [Nat.add_mul] at hkm2;obtain ⟨cur,hgg,hfit,hnc,hO2⟩:=hO.splice1 hp (k*size) cs (by omega);have hr:=zLA (P:=P) w t o.type e i size ht hi hsize g k m off c cap cur e cs hgg hl hsrc (by omega) hfit h1;refine wpList_plain hgd fun K hK=>?_
 unfold Oper.wp execOp;simp only [ho,resolve,invoke,builtin,Sem.run_bind,Sem.run_pure,Result.andThen_ok,List.map_toArray,List.map_cons,List.map_nil,hs,hx,hr];exact hK _ _ (h _ hO2)
theorem zE2 (hO:Own S W w l) {e:TypeId} {size g n cap:Nat} {xs:List Value} (hp:Pick l (Row2 e size (some ⟨g,0,none⟩) n cap xs) l0) (hgd:o.guard=none) (s:Operand) (t:TypeId)
 (ho:o.op=.call { callee:=.builtin .clear,args:=#[s],argTypes:=#[t] }) (i:TypeInfo) (z:Value) (ht:P.underlying t=some (.slice e)) (hi:P.info? e=some i) (hz:i.zero=some z)
 (off m c:Nat) (hs:a.eval s=.slice (some ⟨g,off,none⟩) m c) (hm:0<m) (zs:List Value) (hzs:(Builtin.zeroCells z.cells m).toList=zs) (hfit:off+zs.length≤n*size) (h1:∀v∈zs,v.oneCell'=true)
 (h:∀w',Own S W w' (Row2 e size (some ⟨g,0,none⟩) n cap (splice xs off zs)::l0)→wpList P ops Q rest (a.put o.dst (.tuple #[])) w'):wpList P ops Q (o::rest) a w:=by
 subst hzs;obtain ⟨cur,hgg,hf,hnc,hO2⟩:=hO.splice1 hp off _ hfit;have hr:=zLa (P:=P) w t o.type e i z ht hi hz g m off c cur e hm hgg hf h1;refine wpList_plain hgd fun K hK=>?_
 unfold Oper.wp execOp;simp only [ho,resolve,invoke,builtin,Sem.run_bind,Sem.run_pure,Result.andThen_ok,List.map_toArray,List.map_cons,List.map_nil,hs,hr];exact hK _ _ (h _ hO2)
end
