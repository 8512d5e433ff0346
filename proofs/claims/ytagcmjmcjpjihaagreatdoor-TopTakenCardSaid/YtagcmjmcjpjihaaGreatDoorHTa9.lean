/- Texts Sym, Sym2, Sym3, Sym4, SerL of this claim, laid together. -/
import Derived.Test.YtagcmjmcjpjihaaGreatDoorHC38
import Derived.Test.YtagcmjmcjpjihaaGreatDoorHTa8
set_option linter.unusedVariables false
set_option linter.unusedSimpArgs false
namespace Go.Proofs.YtagcmjmcjpjihaaGreatDoor
open Go.RowKit
theorem zUZ {a b:Nat} (h:zAM a=zAM b):a=b:=by
 have h2:=congrArg (fun s:ByteArray=>valL s.data.toList) h;simp only [zC2,zVR] at h2;exact h2
theorem zUl {a b a' b':Nat} {d d':ByteArray} (h:rowS a b d=rowS a' b' d'):a=a'∧b=b'∧d=d':=by
 have h1:=zUU a b d;rw [h,zUU] at h1;injection h1 with e1 h1
 injection h1 with e2 h1
 injection h1 with e3 _
 exact ⟨(zUZ e1).symm,(zUZ e2).symm,e3.symm⟩
theorem Qu.txt_ok {u:Qu} (h:u.ok):u.txt=(rowS u.next.toNat u.tries.toNat u.dead,0):=by
 unfold Qu.txt;rw [if_neg h.1,if_pos h.2]
theorem Ms.txt_ok {m:Ms} (h:¬m.bad):m.txt=(rowS m.tries.toNat m.until_.toNat m.body,0):=by
 unfold Ms.txt;rw [if_neg h]
theorem zVO {u:Qu} (h:u.ok):quOf u.txt.1=(u,0):=by
 rw [Qu.txt_ok h];have hb:=h.1;unfold Qu.bad at hb;rcases zFp (rowS u.next.toNat u.tries.toNat u.dead) with ⟨q,hq,hok,_,a,b,ha,hb2,hr⟩ | ⟨_,hn⟩
 ·rw [hq];obtain ⟨e1,e2,e3⟩:=zUl hr.1;obtain ⟨q1,q2,q3⟩:=q;obtain ⟨u1,u2,u3⟩:=u;dsimp only at *;subst ha hb2 e3;have h1:(a:Int)=u1:=by omega
  have h2:(b:Int)=u2:=by omega
  rw [h1,h2]
 ·refine absurd ⟨_,_,_,rfl,?_⟩ hn;refine ⟨by omega,by omega,by omega,h.2⟩
theorem zUk {m:Ms} (h:¬m.bad):msOf m.num m.txt.1=(m,0):=by
 rw [Ms.txt_ok h];have hb:=h;unfold Ms.bad at hb;rcases zBn m.num (rowS m.tries.toNat m.until_.toNat m.body) with ⟨q,hq,hn,_,a,b,ha,hb2,hr⟩ | ⟨_,hn⟩
 ·rw [hq];obtain ⟨e1,e2,e3⟩:=zUl hr.1;obtain ⟨q0,q1,q2,q3⟩:=q;obtain ⟨u0,u1,u2,u3⟩:=m;dsimp only at *;subst ha hb2 e3 hn;have h1:(a:Int)=u1:=by omega
  have h2:(b:Int)=u2:=by omega
  rw [h1,h2]
 ·refine absurd ⟨_,_,_,rfl,?_⟩ hn;refine ⟨by omega,by omega,by omega⟩
theorem Qu.txt40 {u:Qu} (h:u.ok):u.txt.1.size≤40:=by
 rw [Qu.txt_ok h];have hb:=h.1;unfold Qu.bad at hb;have h1:=zAR 5 u.next.toNat (by omega);have h2:=zAR 0 u.tries.toNat (by omega);have h3:u.dead.size≤6:=by
  rcases h.2 with h3 | h3
  ·omega
  ·exact h3.2.1
 have:=zFE u.next.toNat u.tries.toNat u.dead;dsimp only;omega
theorem Ms.txt40 {m:Ms} (h:¬m.bad):m.txt.1.size≤40:=by
 rw [Ms.txt_ok h];unfold Ms.bad at h;have h1:=zAR 0 m.tries.toNat (by omega);have h2:=zAR 6 m.until_.toNat (by omega);have:=zFE m.tries.toNat m.until_.toNat m.body;dsimp only;omega
theorem zJf {k v:ByteArray} (hk:KeyOk k) (hv:v.size≤40):chN ⟨k,v,false⟩=0:=by
 unfold chN;rw [if_pos hk,if_neg (fun h=>by cases h.1),if_neg (by dsimp only;omega)]
theorem zUr {k:ByteArray} (hk:KeyOk k):chN ⟨k,⟨#[]⟩,true⟩=0:=by
 unfold chN;rw [if_pos hk,if_neg (fun h=>h.2 rfl),if_neg (by show ¬40<0;omega)]
theorem zUb {α:Type} [DecidableEq α]:∀(l K:List α),l.Nodup→(∀x∈l,x∈K)→l.length≤K.length
 | [],_,_,_=>Nat.zero_le _
 | x::l,K,h,hk=>by
  obtain ⟨h1,h2⟩:=List.nodup_cons.1 h;have h3:=zUb l (K.erase x) h2 fun y hy=>(List.mem_erase_of_ne (fun e:y=x=>h1 (by rw [←e];exact hy))).2 (hk y (List.mem_cons_of_mem _ hy))
  have h4:=List.length_erase_of_mem (hk x (List.mem_cons_self ..));have h5:=List.length_pos_of_mem (hk x (List.mem_cons_self ..));rw [List.length_cons];omega
theorem Ups.nodup {C:List Ch} (h:Ups C):(C.map Ch.key).Nodup:=by
 rw [List.nodup_iff_pairwise_ne,List.pairwise_map];exact h.imp fun h=>zBr h
structure Deed (rows:List Rw) (K:List ByteArray) (D:List Rw) (r:Nat) (C:List Ch) (R:List Sp):Prop where
 inv:QInv C R
 keys:∀c∈C,c.key∈K
 see:C.foldl appR rows=D
 read:R.length≤r
theorem zUE {k:ByteArray}:∀{C:List Ch} {l:List Rw},Ups C→RUps l→valR (C.foldl appR l) k=match zCS C k with | some c=>(if c.gone then (⟨#[]⟩,false) else (c.val,true)) | none=>valR l k
 | [],_,_,_=>rfl
 | c::C,l,hU,hl=>by
  obtain ⟨h1,h2⟩:=List.pairwise_cons.1 hU;have ih:=zUE (k:=k) (C:=C) (l:=appR l c) h2 (zBC hl);rw [List.foldl_cons,ih];unfold zCS;rw [List.find?_cons,zLp hl];by_cases hk:c.key=k
  ·have hn:C.find? (fun x=>decide (x.key=k))=none:=List.find?_eq_none.2 fun x hx h=>by
    have:=zBr (h1 x hx);rw [hk,of_decide_eq_true h] at this;exact this rfl
   rw [hn,if_pos hk,decide_eq_true hk]
  ·rw [if_neg hk,decide_eq_false hk]
theorem zVB {c:Ch}:∀{C:List Ch} {l:List Rw},Ups C→RUps l→(putC C c).foldl appR l=appR (C.foldl appR l) c:=by
 intro C l hU hl;have h1:RUps ((putC C c).foldl appR l):=zEn hl;have h0:RUps (C.foldl appR l):=zEn hl;refine RUps.ext h1 (zBC h0) fun r=>?_
 have hv:∀(E:List Rw),RUps E→(r∈E↔valR E r.key=(r.val,true)):=fun E hE=>by
  unfold valR;constructor
  ·intro hr;have hf:E.find? (fun x=>decide (x.key=r.key))=some r:=by
    cases hf:E.find? (fun x=>decide (x.key=r.key)) with
    | none=>exact absurd (List.find?_eq_none.1 hf r hr) (by simp)
    | some y=>
     have h2:decide (y.key=r.key)=true:=List.find?_some (p:=fun x:Rw=>decide (x.key=r.key)) hf;have h3:=List.mem_of_find?_eq_some hf;rw [hE.inj h3 hr (of_decide_eq_true h2)]
   rw [hf]
  ·cases hf:E.find? (fun x=>decide (x.key=r.key)) with
   | none=>intro h;simp at h
   | some y=>
    intro h;have h2:decide (y.key=r.key)=true:=List.find?_some (p:=fun x:Rw=>decide (x.key=r.key)) hf;have h3:=List.mem_of_find?_eq_some hf;have h4:y.val=r.val:=by injection h
    have:y=r:=by
     obtain ⟨a,b⟩:=y;obtain ⟨a',b'⟩:=r;dsimp only at *;rw [of_decide_eq_true h2,h4]
    rw [←this];exact h3
 rw [hv _ h1,zUE (hU.put c) hl,hv (appR (C.foldl appR l) c) (zBC h0),zLp h0,zUE hU hl];by_cases hk:c.key=r.key
 ·rw [if_pos hk,←hk,zVF]
 ·rw [if_neg hk,zUY (fun e=>hk e.symm)]
theorem zI3 {R:List Sp} (s:Sp) (h:R.length<40):zAY R s=0:=by
 unfold zAY;split
 ·rfl
 ·rw [if_neg (by omega)]
theorem zUc (R:List Sp) (s:Sp):(zA7 R s).length≤R.length+1:=by
 unfold zA7;split
 ·omega
 ·split
  ·omega
  ·rw [List.length_append,List.length_singleton];omega
theorem zVG (C:List Ch) (R:List Sp) (k:ByteArray):(getB C R k).length≤R.length+1:=by
 unfold getB;split
 ·omega
 ·split
  ·omega
  ·exact zUc _ _
variable {rows:List Rw} {K:List ByteArray} {D:List Rw} {r:Nat} {C:List Ch} {R:List Sp}
theorem Deed.more {r':Nat} (h:Deed rows K D r C R) (hr:r≤r'):Deed rows K D r' C R:=⟨h.inv,h.keys,h.see,Nat.le_trans h.read hr⟩
theorem Deed.get_val (hr:QRows rows) (h:Deed rows K D r C R) {k:ByteArray} (hk:KeyOk k) (hl:r<40):getG (valR rows k) C R k=((valR D k).1,(valR D k).2,0):=by
 have hd:=zUE (k:=k) h.inv.ups hr.ups;rw [h.see] at hd;have h1:=h.read;unfold getG;rw [if_neg (by rw [zCc hk];simp)];cases hf:zCS C k with
 | none=>rw [hf] at hd;dsimp only at hd ⊢;rw [if_neg (by rw [zI3 _ (by omega)];simp),hd]
 | some c=>
  rw [hf] at hd;dsimp only at hd ⊢;cases hg:c.gone with
  | false=>rw [hg] at hd;rw [hd];rfl
  | true=>rw [hg] at hd;rw [hd,zN7 (h.inv.good c (zUg hf).1) hg];rfl
theorem Deed.get (h:Deed rows K D r C R) (k:ByteArray):Deed rows K D (r+1) C (getB C R k):=
 ⟨h.inv.reads (zH8 h.inv.r40),h.keys,h.see,by have:=h.read;have:=zVG C R k;omega⟩
theorem Deed.find_reads (h:Deed rows K D r C R) (name:ByteArray):Deed rows K D (r+1) C (zAI C R name):=by
 unfold zAI;split
 ·exact h.more (by omega)
 ·exact h.get _
theorem Deed.find_yes (hr:QRows rows) (h:Deed rows K D r C R) {name:ByteArray} {u:Qu} (hn:zAN name) (hv:valR D (queB name)=(u.txt.1,true)) (hu:u.ok) (hl:r<40):zAO (valR rows (queB name)) C R name=(u,0):=by
 unfold zAO;rw [if_neg (by simpa using hn),h.get_val hr (zUR hn) hl,hv];dsimp only;rw [if_neg (by simp),if_neg (by simp),zVO hu]
theorem Deed.find_no (hr:QRows rows) (h:Deed rows K D r C R) {name:ByteArray} (hn:zAN name) (hv:(valR D (queB name)).2=false) (hl:r<40):zAO (valR rows (queB name)) C R name=(Qu.z,5):=by
 unfold zAO;rw [if_neg (by simpa using hn),h.get_val hr (zUR hn) hl];dsimp only;rw [if_neg (by simp),if_pos hv]
theorem Deed.put (hr:QRows rows) (h:Deed rows K D r C R) {c:Ch} (hc:chN c=0) (hk:c.key∈K) (hK:K.length≤12):putN C c=0∧Deed rows K (appR D c) r (putL C c) R:=by
 have hm:∀x∈putC C c,x.key∈K:=fun x hx=>by
  rcases zTM hx with rfl | hx
  ·exact hk
  ·exact h.keys x hx
 have hlen:(putC C c).length≤12:=by
  have:=zUb ((putC C c).map Ch.key) K (h.inv.ups.put c).nodup fun k hk=>by
   obtain ⟨x,hx,rfl⟩:=List.mem_map.1 hk;exact hm x hx
  rw [List.length_map] at this;omega
 have h0:putN C c=0:=by
  unfold putN;rw [if_neg (by rw [hc];simp),if_neg (by omega)]
 have e:putL C c=putC C c:=by unfold putL;rw [if_pos h0]
 refine ⟨h0,h.inv.put c,?_,?_,h.read⟩
 ·rw [e];exact hm
 ·rw [e,zVB h.inv.ups hr.ups,h.see]
theorem Deed.putq (hr:QRows rows) (h:Deed rows K D r C R) {name:ByteArray} {u:Qu} (hn:zAN name) (hu:u.ok) (hk:queB name∈K) (hK:K.length≤12):zD6 C name u=0∧Deed rows K (appR D ⟨queB name,u.txt.1,false⟩) r (zEB C name u) R:=by
 have h2:u.txt.2=0:=by rw [Qu.txt_ok hu]
 obtain ⟨p1,p2⟩:=h.put (c:=⟨queB name,u.txt.1,false⟩) hr (zJf (zUR hn) (Qu.txt40 hu)) hk hK;unfold zD6 zEB;rw [if_neg (by omega),if_neg (by omega)];exact ⟨p1,p2⟩
theorem Deed.set (hr:QRows rows) (h:Deed rows K D r C R) {name:ByteArray} {m:Ms} {n:Nat} (hn:zAN name) (hm:¬m.bad) (hnum:m.num=n) (hn6:n<1000000) (hk:msgB name n∈K) (hK:K.length≤12):setN C name m=0∧Deed rows K (appR D ⟨msgB name n,m.txt.1,false⟩) r (setL C name m) R:=by
 have h2:m.txt.2=0:=by rw [Ms.txt_ok hm]
 obtain ⟨p1,p2⟩:=h.put (c:=⟨msgB name n,m.txt.1,false⟩) hr (zJf (zUB hn hn6) (Ms.txt40 hm)) hk hK;unfold setN setL;rw [if_neg (by omega),if_neg (by omega),show m.num.toNat=n from by rw [hnum];rfl];exact ⟨p1,p2⟩
theorem Deed.create (hr:QRows rows) (h:Deed rows K D r C R) {name:ByteArray} {tries:Int} (hn:zAN name) (hv:(valR D (queB name)).2=false) (ht:1≤tries∧tries≤9) (hk:queB name∈K) (hK:K.length≤12) (hl:r<40) :
 ∃C' R',zAq (valR rows) C R name tries ⟨#[]⟩=(0,C',R')∧Deed rows K (appR D ⟨queB name,(Qu.txt ⟨0,tries,⟨#[]⟩⟩).1,false⟩) (r+1) C' R':=by
 have hu:Qu.ok ⟨0,tries,⟨#[]⟩⟩:=⟨by unfold Qu.bad;dsimp only;omega,.inl rfl⟩
 obtain ⟨p1,p2⟩:=(h.find_reads name).putq hr hn hu hk hK;refine ⟨zEB C name ⟨0,tries,⟨#[]⟩⟩,zAI C R name,?_,p2⟩;unfold zAq;rw [h.find_no hr hn hv hl];dsimp only;have hne:¬(⟨#[]⟩:ByteArray)=name:=fun e=>by have:=hn.1;rw [←e] at this;exact absurd this (by decide)
 rw [if_neg (by simp),if_neg (by simp),if_neg hne,if_pos rfl,p1]
def Qu.up (u:Qu):Qu:=⟨u.next+1,u.tries,u.dead⟩
theorem Deed.sendA (hr:QRows rows) (h:Deed rows K D r C R) {name body:ByteArray} {u:Qu} {til:Int} {n:Nat} (hn:zAN name) (hu:u.ok) (hnx:u.next=n) (hn6:n<999999) (hb:body.size≤28) (ht:0≤til∧til≤2000000) (hk:queB name∈K) (hk2:msgB name n∈K) (hK:K.length≤12) :
 ∃C',zA8 C name u body til=((n:Int),0,C')∧Deed rows K (appR (appR D ⟨msgB name n,(Ms.txt ⟨n,0,til,body⟩).1,false⟩) ⟨queB name,u.up.txt.1,false⟩) r C' R:=by
 have hm:¬Ms.bad ⟨0,0,til,body⟩:=by unfold Ms.bad;dsimp only;omega
 have hm2:(Ms.txt ⟨0,0,til,body⟩)=Ms.txt ⟨n,0,til,body⟩:=rfl;have h2:(Ms.txt ⟨0,0,til,body⟩).2=0:=by rw [Ms.txt_ok hm]
 obtain ⟨p1,p2⟩:=h.put (c:=⟨msgB name n,(Ms.txt ⟨0,0,til,body⟩).1,false⟩) hr (zJf (zUB hn (by omega)) (Ms.txt40 hm)) hk2 hK;have hu2:u.up.ok:=by
  refine ⟨?_,hu.2⟩;have:=hu.1;unfold Qu.bad Qu.up at *;dsimp only;omega
 obtain ⟨q1,q2⟩:=p2.putq hr hn hu2 hk hK;refine ⟨_,?_,q2⟩;unfold Go.Proofs.YtagcmjmcjpjihaaGreatDoor.zA8;rw [hnx];rw [show ((n:Nat):Int).toNat=n from rfl,if_neg (by omega),if_neg (by omega),if_neg (by rw [p1];simp)];unfold Qu.up at q1;rw [hnx] at q1;rw [q1];unfold Qu.up;rw [hnx]
theorem zVQ {t:Int} (h:0≤t∧t≤1000000):zBM [t]=0:=by
 unfold zBM badT;rw [if_neg];simp;omega
theorem Deed.send (hr:QRows rows) (h:Deed rows K D r C R) {name body:ByteArray} {u:Qu} {til:Int} {n:Nat} (hn:zAN name) (hv:valR D (queB name)=(u.txt.1,true)) (hu:u.ok) (hnx:u.next=n) (hn6:n<999999) (hb:body.size≤28) (ht:0≤til∧til≤1000000) (hk:queB name∈K) (hk2:msgB name n∈K) (hK:K.length≤12) (hl:r<40) :
 ∃C',zBa (valR rows (queB name)) C R name body til=((n:Int),0,C')∧Deed rows K (appR (appR D ⟨msgB name n,(Ms.txt ⟨n,0,til,body⟩).1,false⟩) ⟨queB name,u.up.txt.1,false⟩) (r+1) C' (zAI C R name):=by
 obtain ⟨C',e,hd⟩:=(h.find_reads name).sendA hr hn hu hnx hn6 hb (by omega:0≤til∧til≤2000000) hk hk2 hK;refine ⟨C',?_,hd⟩;unfold zBa;rw [h.find_yes hr hn hv hu hl];dsimp only;rw [if_neg (by simp),if_neg (by rw [zVQ ht];simp),e];dsimp only;rw [if_neg (by simp)]
theorem Deed.scn (h:Deed rows K D r C R) (L:List Rw) (lo hi:ByteArray) (hl:r<40):scnN L R lo hi 1=0∧Deed rows K D (r+1) C (scnB L R lo hi 1):=by
 have h1:=h.read;constructor
 ·unfold scnN;rw [if_neg (by omega)];exact zI3 _ (by omega)
 ·refine ⟨h.inv.scan _ _ _ _,h.keys,h.see,?_⟩;unfold scnB;rw [if_neg (by omega)];have:=zUc R (scnS L lo hi 1);omega
theorem Deed.recv_empty (h:Deed rows K D r C R) {name lo:ByteArray} {u:Qu} {now long:Int} (hL:inR lo (hiB name) D=[]) (hl:r<40):∃R',Recv rows name u now long C R lo (Ms.z,12,C,R')∧Deed rows K D (r+1) C R':=by
 obtain ⟨s1,s2⟩:=h.scn [] lo (hiB name) hl;exact ⟨_,.empty (by rw [h.see];exact hL) s1 rfl,s2⟩
theorem zUf {a b:Int} (h:0≤a∧a≤1000000) (h2:0≤b∧b≤1000000):zBM [a,b]=0:=by
 unfold zBM badT;rw [if_neg];simp;omega
theorem Deed.receive (hr:QRows rows) (h:Deed rows K D r C R) {name:ByteArray} {u:Qu} {now long:Int} {m:Ms} {C':List Ch} {R':List Sp} (hn:zAN name) (hv:valR D (queB name)=(u.txt.1,true)) (hu:u.ok) (h1:0≤now∧now≤1000000) (h2:0≤long∧long≤1000000) (hl:r<40)
 (hrec:Recv rows name u now long C (zAI C R name) (loB name) (m,0,C',R')):RecvAns rows C R name now long (m,0,C',R'):=by
 have hf:=h.find_yes hr hn hv hu hl;exact .done (by rw [hf]) (zUf h1 h2) (by rw [hf];exact hrec) rfl
theorem Deed.receive_no (hr:QRows rows) (h:Deed rows K D r C R) {name:ByteArray} {u:Qu} {now long:Int} {m:Ms} {N:Nat} {C':List Ch} {R':List Sp} (hn:zAN name) (hv:valR D (queB name)=(u.txt.1,true)) (hu:u.ok) (h1:0≤now∧now≤1000000) (h2:0≤long∧long≤1000000) (hl:r<40)
 (hrec:Recv rows name u now long C (zAI C R name) (loB name) (m,N,C',R')) (hN:N≠0):RecvAns rows C R name now long (Ms.z,N,C,R'):=by
 have hf:=h.find_yes hr hn hv hu hl;exact .fail (by rw [hf]) (zUf h1 h2) (by rw [hf];exact hrec) hN rfl
def qN:ByteArray:=⟨#[113]⟩
theorem zT8:zAN qN:=by decide
theorem zUe {a b:ByteArray} {p s t:List UInt8} {x y:UInt8} (ha:a.data.toList=p++x::s) (hb:b.data.toList=p++y::t) (h:x<y):slt a b=true:=by
 unfold slt;rw [ByteArray.toList_eq,ByteArray.toList_eq,ha,hb,zS8,zEk];simp [h]
theorem zU6 (a:ByteArray) (n:Nat):(msgB a n).data.toList=109::47::(a.data.toList++47::(six n).data.toList):=by
 unfold msgB;rw [zAB,zAB,zAB,zAB];simp only [List.append_assoc];rfl
theorem zUd (a:ByteArray):(queB a).data.toList=113::47::a.data.toList:=by
 unfold queB;rw [zAB,zAB];rfl
theorem zUj (a:ByteArray):(hiB a).data.toList=109::47::(a.data.toList++[48]):=by
 unfold hiB;rw [zAB,zAB,zAB];simp only [List.append_assoc];rfl
theorem zT9 (a b:ByteArray) (n:Nat):slt (msgB a n) (queB b)=true:=zUe (p:=[]) (zU6 a n) (zUd b) (by decide)
theorem zVd (a:ByteArray):(hiB a).toList.isEmpty=false:=by rw [ByteArray.toList_eq,zUj];rfl
theorem zU1 {lo hi k:ByteArray} (h:slt hi k=true) (hn:hi.toList.isEmpty=false):hasB lo hi k=false:=by
 unfold hasB zGK;rw [zBR h,hn];simp
theorem zVc (lo a b:ByteArray):hasB lo (hiB a) (queB b)=false:=zU1 (zUe (p:=[]) (zUj a) (zUd b) (by decide)) (zVd a)
theorem zU2 (n:Nat):hasB (loB qN) (hiB qN) (msgB qN n)=true:=zLr.2 ((zOB zT8 zT8 n).2 rfl)
theorem zUC {c:Ch} {Z:List Rw}:∀{A:List Rw} (l:Bool),(∀a∈A,slt a.key c.key=true)→appF c l (A++Z)=A++appF c l Z
 | [],_,_=>rfl
 | x::A,l,h=>by
  have ih:=zUC (c:=c) (Z:=Z) (A:=A) l fun a ha=>h a (List.mem_cons_of_mem _ ha)
  have hx:=h x (List.mem_cons_self ..);cases l with
  | false=>rw [List.cons_append,zJt hx,ih];rfl
  | true=>rw [List.cons_append,zFN (zBr hx),ih];rfl
theorem zVT {c:Ch} {A Z:List Rw} (hg:c.gone=false) (hA:∀a∈A,slt a.key c.key=true) (hZ:∀z∈Z,slt c.key z.key=true):appR (A++Z) c=A++⟨c.key,c.val⟩::Z:=by
 unfold appR;rw [hg,zUC false hA]
 congr 1
 cases Z with
 | nil=>rfl
 | cons z Z=>
  have h1:=hZ z (List.mem_cons_self ..);rw [zJr (zBR h1) (zBr h1).symm,zFT fun r hr=>(zBr (hZ r (List.mem_cons_of_mem _ hr))).symm]
theorem zVU {c:Ch} {A Z:List Rw} {r:Rw} (hg:c.gone=false) (hA:∀a∈A,slt a.key c.key=true) (hr:r.key=c.key) (hZ:∀z∈Z,slt c.key z.key=true):appR (A++r::Z) c=A++⟨c.key,c.val⟩::Z:=by
 unfold appR;rw [hg,zUC false hA,zJm (by rw [hr];exact zBw _) hr,zFT fun r hr=>(zBr (hZ r hr)).symm]
theorem zVS {c:Ch} {A Z:List Rw} {r:Rw} (hg:c.gone=true) (hA:∀a∈A,slt a.key c.key=true) (hr:r.key=c.key) (hZ:∀z∈Z,slt c.key z.key=true):appR (A++r::Z) c=A++Z:=by
 unfold appR;rw [hg,zUC true hA,zJa hr,zFT fun r hr=>(zBr (hZ r hr)).symm]
theorem zVa {A Z:List Rw} {r:Rw} {k:ByteArray} (hr:r.key=k) (hA:∀a∈A,slt a.key k=true):valR (A++r::Z) k=(r.val,true):=by
 unfold valR;rw [List.find?_append,List.find?_eq_none.2 (fun a ha h=>zBr (hA a ha) (of_decide_eq_true h))];rw [List.find?_cons,decide_eq_true hr];rfl
theorem QRows.nil:QRows []:=⟨.nil,fun _ h=>(List.not_mem_nil h).elim,Nat.zero_le _⟩
theorem QInv.nil:QInv [] []:=⟨List.Pairwise.nil,Nat.zero_le _,Nat.zero_le _,fun _ h=>(List.not_mem_nil h).elim⟩
theorem Deed.start (rows:List Rw) (K:List ByteArray):Deed rows K rows 0 [] []:=⟨QInv.nil,fun _ h=>(List.not_mem_nil h).elim,rfl,Nat.le_refl _⟩
def mR (name:ByteArray) (n:Nat) (m:Ms):Rw:=⟨msgB name n,m.txt.1⟩
def uR (name:ByteArray) (u:Qu):Rw:=⟨queB name,u.txt.1⟩
variable {rows:List Rw} {K:List ByteArray} {D:List Rw} {r:Nat} {C:List Ch} {R:List Sp}
theorem Deed.mine_reads (h:Deed rows K D r C R) (B:ByteArray→ByteArray×Bool) (name:ByteArray) (n tries:Int):Deed rows K D (r+2) C (zBK B C R name n tries):=by
 unfold zBK;split
 ·exact (h.find_reads name).more (by omega)
 ·exact (h.find_reads name).get _
theorem Deed.mine_yes (hr:QRows rows) (h:Deed rows K D r C R) {name:ByteArray} {u:Qu} {m:Ms} {n:Nat} {tries:Int} (hn:zAN name) (hv:valR D (queB name)=(u.txt.1,true)) (hu:u.ok) (hm:valR D (msgB name n)=(m.txt.1,true)) (hmb:¬m.bad) (hnum:m.num=n) (hn6:n<1000000) (ht:m.tries=tries) (ht1:1≤tries) (hl:r+1<40) :
 zBf (valR rows) C R name n tries=(m,0):=by
 have h1:=h.find_reads name;have hp:msOf n m.txt.1=(m,0):=by rw [←hnum];exact zUk hmb
 unfold zBf;rw [h.find_yes hr hn hv hu (by omega)];dsimp only;rw [if_neg (by simp),if_neg (by omega),show ((n:Nat):Int).toNat=n from rfl,h1.get_val hr (zUB hn hn6) hl,hm];dsimp only;rw [if_neg (by simp),if_neg (by simp),hp,if_neg (by simp),if_neg (by rw [ht];simp)]
theorem zVX (u:Qu):valR [uR qN u] (queB qN)=(u.txt.1,true):=zVa (A:=[]) (Z:=[]) (r:=uR qN u) rfl (fun _ h=>(List.not_mem_nil h).elim)
theorem zU8 (lo:ByteArray) (u:Qu):inR lo (hiB qN) [uR qN u]=[]:=by
 unfold inR uR;simp [List.filter,zVc]
theorem zUx (tries:Int) (ht:1≤tries∧tries≤9) {K:List ByteArray} (hk:queB qN∈K) (hK:K.length≤12):∃C1 R1,zAq (valR []) [] [] qN tries ⟨#[]⟩=(0,C1,R1)∧Deed [] K [uR qN ⟨0,tries,⟨#[]⟩⟩] 1 C1 R1:=by
 obtain ⟨C1,R1,e1,d1⟩:=(Deed.start [] K).create QRows.nil (tries:=tries) zT8 (by rfl) ht hk hK (by omega);exact ⟨C1,R1,e1,d1⟩
theorem u_ok {n tries:Int} (h:0≤n∧n≤999999) (ht:1≤tries∧tries≤9):Qu.ok ⟨n,tries,⟨#[]⟩⟩:=⟨by unfold Qu.bad;dsimp only;omega,.inl rfl⟩
structure ZQ (Z:List Rw) (u:Qu):Prop where
 gt:∀n,∀z∈Z,slt (msgB qN n) z.key=true
 out:∀lo,inR lo (hiB qN) Z=[]
 val:valR Z (queB qN)=(u.txt.1,true)
def msL (f:Nat→Ms) (j n:Nat):List Rw:=(List.range' j (n-j)).map fun i=>mR qN i (f i)
theorem zUA {f:Nat→Ms} {j n:Nat} {x:Rw} (h:x∈msL f j n):∃i,j≤i∧i<n∧x=mR qN i (f i):=by
 unfold msL at h;obtain ⟨i,hi,rfl⟩:=List.mem_map.1 h;rw [List.mem_range'_1] at hi;exact ⟨i,hi.1,by omega,rfl⟩
theorem zUL {f:Nat→Ms} {j n:Nat} (h:j<n):msL f j n=mR qN j (f j)::msL f (j+1) n:=by
 unfold msL;rw [show n-j=(n-(j+1))+1 from by omega,List.range'_succ];rfl
theorem zUI {f:Nat→Ms} {j n:Nat} (h:n≤j):msL f j n=[]:=by
 unfold msL;rw [show n-j=0 from by omega];rfl
theorem zU5 {f:Nat→Ms} {j k n:Nat} (h1:j≤k) (h2:k≤n):msL f j n=msL f j k++msL f k n:=by
 unfold msL;rw [←List.map_append]
 congr 1
 rw [show n-j=(k-j)+(n-k) from by omega,←List.range'_append_1]
 congr 2
 omega
theorem zUa {f g:Nat→Ms} {j n:Nat} (h:∀i,j≤i→i<n→f i=g i):msL f j n=msL g j n:=by
 unfold msL;apply List.map_congr_left;intro i hi;rw [List.mem_range'_1] at hi;rw [h i hi.1 (by omega)]
theorem zUt {f:Nat→Ms} {j n:Nat} {Z:List Rw} {u:Qu} (hz:ZQ Z u):valR (msL f j n++Z) (queB qN)=(u.txt.1,true):=by
 have h:=hz.val;unfold valR at h ⊢;rw [List.find?_append,List.find?_eq_none.2 (fun x hx h2=>by
  obtain ⟨i,_,_,rfl⟩:=zUA hx;exact zBr (zT9 qN qN i) (of_decide_eq_true h2))]
 exact h
variable {rows:List Rw} {K:List ByteArray} {r:Nat} {C:List Ch} {R:List Sp}
theorem ZQ.one (u:Qu):ZQ [uR qN u] u where
 gt n z hz:=by rw [List.mem_singleton.1 hz];exact zT9 qN qN n
 out lo:=zU8 lo u
 val:=zVX u
theorem Deed.sends {f:Nat→Ms} {n:Nat} {u:Qu} {body:ByteArray} (hr:QRows rows) (hu:u.ok) (hnx:u.next=n) (hn:n<999999) (hb:body.size≤28) (h:Deed rows K (msL f 0 n++[uR qN u]) r C R) (hk:queB qN∈K) (hk2:msgB qN n∈K) (hK:K.length≤12) (hl:r<40) :
 ∃C',zBa (valR rows (queB qN)) C R qN body 0=((n:Int),0,C')∧Deed rows K (msL (fun i=>if i=n then ⟨n,0,0,body⟩ else f i) 0 (n+1)++[uR qN u.up]) (r+1) C' (zAI C R qN):=by
 obtain ⟨C',e,d⟩:=h.send hr (body:=body) (til:=0) (n:=n) zT8 (zUt (ZQ.one u)) hu hnx hn hb (by omega) hk hk2 hK hl;have hA:∀a∈msL f 0 n,slt a.key (msgB qN n)=true:=fun a ha=>by
  obtain ⟨i,_,hi,rfl⟩:=zUA ha;unfold mR;rw [zJg qN i n (by omega) (by omega)];simpa using hi
 have f2:appR (msL f 0 n++[uR qN u]) ⟨msgB qN n,(Ms.txt ⟨n,0,0,body⟩).1,false⟩=(msL f 0 n++[mR qN n ⟨n,0,0,body⟩])++uR qN u::[]:=by
  rw [zVT rfl hA (fun z hz=>by rw [List.mem_singleton.1 hz];exact zT9 qN qN n)];simp [mR]
 rw [f2,zVU (r:=uR qN u) rfl (fun a ha=>by
  rcases List.mem_append.1 ha with h | h
  ·obtain ⟨i,_,_,rfl⟩:=zUA h;exact zT9 qN qN i
  ·rw [List.mem_singleton.1 h];exact zT9 qN qN n) rfl (fun _ h=>(List.not_mem_nil h).elim)] at d
 refine ⟨C',e,?_⟩;rw [zU5 (f:=fun i=>if i=n then (⟨n,0,0,body⟩:Ms) else f i) (Nat.zero_le n) (Nat.le_succ n),zUL (f:=fun i=>if i=n then (⟨n,0,0,body⟩:Ms) else f i) (Nat.lt_succ_self n),zUI (Nat.le_refl _),zUa (f:=fun i=>if i=n then (⟨n,0,0,body⟩:Ms) else f i) (g:=f) (j:=0) (n:=n) (fun i _ hi=>if_neg (by omega))];simp only [if_true];exact d
theorem zLo {R:List Sp} {s:Sp} (h:hasS R s=true):s∈R:=by
 unfold hasS at h;obtain ⟨x,h1,h2⟩:=List.any_eq_true.1 h;unfold eqS at h2;simp only [Bool.and_eq_true,decide_eq_true_eq] at h2;obtain ⟨xl,xh⟩:=x;obtain ⟨sl,sh⟩:=s;dsimp only at h2;obtain ⟨rfl,rfl⟩:=h2;exact h1
theorem zKA (R:List Sp) (s:Sp):∀x∈R,x∈zA7 R s:=fun x hx=>by
 unfold zA7;split
 ·exact hx
 ·split
  ·exact hx
  ·exact List.mem_append_left _ hx
theorem zMj {R:List Sp} {s:Sp} (h:zAY R s=0):s∈zA7 R s:=by
 unfold zAY at h;unfold zA7;split
 ·rename_i h1;exact zLo h1
 ·rename_i h1;rw [if_neg h1] at h;split
  ·rename_i h2;rw [if_pos h2] at h;cases h
  ·exact List.mem_append_right _ (List.mem_singleton.2 rfl)
theorem zIQ (C:List Ch) (R:List Sp) (k:ByteArray):∀x∈R,x∈getB C R k:=fun x hx=>by
 unfold getB;split
 ·exact hx
 ·split
  ·exact hx
  ·exact zKA _ _ x hx
theorem zCv (C:List Ch) (R:List Sp) (name:ByteArray):∀x∈R,x∈zAI C R name:=fun x hx=>by
 unfold zAI;split
 ·exact hx
 ·exact zIQ _ _ _ x hx
theorem zGY (Y:ByteArray→ByteArray×Bool) (C:List Ch) (R:List Sp) (name:ByteArray) (n tries:Int):∀x∈zAI C R name,x∈zBK Y C R name n tries:=fun x hx=>by
 unfold zBK;split
 ·exact hx
 ·exact zIQ _ _ _ x hx
theorem zOd {L:List Rw} {lo hi:ByteArray} {n:Nat} (h1:1≤n) (h:n≤L.length):scnS L lo hi n=Sp.both ⟨lo,hi⟩ ⟨⟨#[]⟩,(L[n-1]'(by omega)).key++nul⟩:=by
 unfold scnS;rw [if_pos (by omega),Int.toNat_natCast];rw [List.getD_eq_getElem?_getD,List.getElem?_eq_getElem (by omega)];rfl
