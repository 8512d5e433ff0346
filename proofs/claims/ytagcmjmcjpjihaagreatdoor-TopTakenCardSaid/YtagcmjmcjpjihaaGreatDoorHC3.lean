/- Texts Ops, More, Tree, Plan of this claim, laid together. -/
import Derived.Test.YtagcmjmcjpjihaaGreatDoorHC2
import Derived.Laws.CopyOwn
import Derived.Lib.Hide
set_option linter.unusedVariables false
set_option linter.unusedSimpArgs false
set_option linter.unnecessarySimpa false
namespace Go.Proofs.YtagcmjmcjpjihaaGreatDoor
open Go.RowKit
inductive Keeps:List Rs→List Rs→Prop
 | here (l:List Rs):Keeps l l
 | skip (x:Rs) {l l':List Rs}:Keeps l l'→Keeps (x::l) l'
theorem Keeps.stars {w:World}:∀{l l':List Rs} {M Z:Nat→Prop},Keeps l l'→Stars w l M Z→Stars w l' M Z
 | _,_,_,_,.here _,h=>h
 | _,_,_,_,.skip _ hk,⟨_,_,_,h2,_,s2,_⟩=>(hk.stars h2).mono s2 (fun _ h=>h)
theorem zS2 {α:Type} {P:α→Prop} {v:α} (h:P v):∀u∈[v],P u:=fun u hu=>by rw [List.mem_singleton.1 hu];exact h
theorem zAp:∀u∈([]:List Value),u.oneCell'=true:=fun u hu=>by cases hu
theorem zAf {v:Value} {l:List Value} (h:v.oneCell'=true) (k:∀u∈l,u.oneCell'=true):∀u∈v::l,u.oneCell'=true:=fun u hu=>by
 rcases List.mem_cons.1 hu with rfl | hu
 ·exact h
 ·exact k u hu
theorem zBd (g off j:Nat):(⟨g,off,none⟩:Addr).add j=⟨g,off+j,none⟩:=by unfold Addr.add;split<;>simp_all
inductive Sub:List Rs→List Rs→Prop
 | base {l l':List Rs}:Keeps l l'→Sub l l'
 | cons {l l1 l':List Rs} {r:Rs}:Pick l r l1→Sub l1 l'→Sub l (r::l')
theorem Sub.stars {w:World}:∀{l l':List Rs} {M Z:Nat→Prop},Sub l l'→Stars w l M Z→Stars w l' M Z
 | _,_,_,_,.base hk,h=>hk.stars h
 | _,_,_,_,.cons hp hs,h=>by
  obtain ⟨M1,M2,h1,h2,s1,s2,d⟩:=hp.stars h;exact ⟨M1,M2,h1,hs.stars h2,s1,s2,d⟩
theorem sb_ {l l':List Rs} (h:Sub l l':=by repeat (first | with_reducible apply Sub.cons | with_reducible exact Pick.here _ _ | with_reducible apply Pick.there | with_reducible apply Sub.base | with_reducible exact Keeps.here _ | with_reducible apply Keeps.skip)):Sub l l':=h
theorem kp_ {l l':List Rs} (h:Keeps l l':=by repeat (first | exact Keeps.here _ | apply Keeps.skip)):Keeps l l':=h
theorem xt_ {w w':World} (h:Ext w w':=by repeat (first | exact Ext.refl _ | assumption | refine Ext.of_drew ?_ | refine Ext.alloc ?_ _ | refine Ext.drew ?_ | refine Ext.trans ?_ (by assumption))):Ext w w':=h
section
variable {S:Nat→Prop} {W w w':World} {l l' l0 l1 rs:List Rs} {r r':Rs}
theorem Own.cut (h:Own S W w l) (hs:Sub l l'):Own S W w l':=by
 obtain ⟨hc,M,Z,h1,rest⟩:=h;exact ⟨hc,M,Z,hs.stars h1,rest⟩
theorem Own.give (h:Own S W w l) (ht:Takes l rs l1) (hk:Keeps l1 l0):Own S W w (rs++l0):=by
 obtain ⟨hc,M,Z,hs,rest⟩:=h.take ht;obtain ⟨N1,N2,k1,k2,t1,t2,e⟩:=hs.append;exact ⟨hc,M,Z,Stars.join k1 (hk.stars k2) t1 t2 e,rest⟩
theorem Own.varRow {b n size:Nat} {cs:List Value} {e:TypeId} (hn:cs.length=n*size) (hm:n≤maxLen) (h:Own S W w (Var b cs e::l)):Own S W w (Row2 e size (some ⟨b,0,none⟩) n n cs::l):=
 h.map1 (r:=Var b cs e) (r':=Row2 e size (some ⟨b,0,none⟩) n n cs) fun w M Z ⟨h1,h2⟩=>⟨⟨hn,.inr ⟨b,n,cs.toArray,rfl,Nat.zero_le _,h1,Nat.le_refl _,hm,by simpa using hn,by rw [←hn];simp⟩⟩,fun b' hb=>by simp [Value.ownBlock] at hb;subst hb;exact h2⟩
theorem Var.at {b:Nat} {cs:List Value} {t:TypeId} (h:(Var b cs t).facts w):∀j u,cs[j]?=some u→w.cell? ⟨b,0+j,none⟩=some u:=fun j u hj=>by
 rw [Nat.zero_add];exact Var.cells (t:=t) h.1 hj
theorem zBb {g off:Nat} {xs:List Value} (h:ValsAt w (some ⟨g,off,none⟩) xs):∀j u,xs[j]?=some u→w.cell? ⟨g,off+j,none⟩=some u:=fun j u hj=>h.get hj
theorem Own.factOf (h:Own S W w l) (hp:Pick l r l'):r.facts w:=(h.pick hp).facts.1
theorem Own.vals {e:TypeId} {size n cap:Nat} {a:Option Addr} {xs:List Value} (h:Own S W w l) (hp:Pick l (Row2 e size a n cap xs) l'):ValsAt w a xs:=(h.factOf hp).1
theorem Own.cellAt {e:TypeId} {size n cap g:Nat} {xs:List Value} {i:Nat} {v:Value} (h:Own S W w l) (hp:Pick l (Row2 e size (some ⟨g,0,none⟩) n cap xs) l') (hi:xs[i]?=some v):w.cell? ⟨g,i,none⟩=some v:=by
 have:=zBb (h.vals hp) i v hi
 rwa [Nat.zero_add] at this
theorem Own.rowCut {e:TypeId} {size n cap:Nat} {a:Option Addr} {xs:List Value} (m:Nat) (hm:m≤n) (h:Own S W w (Row2 e size a n cap xs::l)):Own S W w (Row2 e size a m cap (xs.take (m*size))::l):=
 h.map1 (r:=Row2 e size a n cap xs) (r':=Row2 e size a m cap (xs.take (m*size))) fun w M Z ⟨h1,h2⟩=>⟨⟨by rw [List.length_take,h1.1];exact Nat.min_eq_left (Nat.mul_le_mul_right _ hm),by
  rcases h1.2 with ⟨hv,h0⟩ | ⟨g,c,cur,hv,hb,hg,h3,h4,h5,h6⟩
  ·injection hv with q1 q2 q3
   subst q1;subst q3;have:m=0:=by omega
   subst this;exact .inl ⟨rfl,rfl⟩
  ·injection hv with q1 q2 q3
   subst q1;subst q3;exact .inr ⟨g,cap,cur,rfl,hb,hg,by omega,h4,h5,by rw [←h6,List.take_take,Nat.min_eq_left (Nat.mul_le_mul_right _ hm)]⟩⟩,
  fun b hb=>h2 b (by cases a<;>simpa [Value.ownBlock] using hb)⟩
end
section
variable {P:Program} {S:Nat→Prop} {W w:World} {l l' l0 l1:List Rs} {ops:Array Oper} {rest:List Oper} {a:Act} {Q:Exit→Act→World→Prop} {c:Code} {o:Oper}
theorem zEu (hO:Own S W w l) (hg:o.guard=none) (x y:Operand) (t:TypeId) (hop:o.op=Op.makeSlice t x y)
 (e:TypeId) (i:TypeInfo) (z:Value) (size:Nat) (h1:P.underlying t=some (.slice e)) (h2:P.info? e=some i) (h3:i.zero=some z) (h4:i.size=size)
 (kl kc:IntKind) (A C:Int) (n:Nat) (hl:a.eval x=.int kl A) (hc:a.eval y=.int kc C) (hA:A=(n:Int)) (hC:C=(n:Int)) (b2:i.bytes*n≤281474976710656) (b3:n≤maxLen)
 (hK:∀g w',Own S W w' (Row2 e size (some ⟨g,0,none⟩) n n (madeCells z.cells (n*size)).toList::l)→wpList P ops Q rest (a.put o.dst (.slice (some ⟨g,0,none⟩) n n)) w') :
 wpList P ops Q (o::rest) a w:=by
 refine wpList_make_full w hg x y t hop 0 e i z size h1 h2 h3 h4 kl kc A C n hl hc hA hC b2 b3 (Nat.zero_le _) fun w' r1 r2=>?_
 have hx:Ext w w':=⟨r2.os,r2.tape,r2.output,r2.size,fun k hk=>r2.block k hk (fun e=>by cases e)⟩
 refine hK _ w' (hO.new hx (M':=fun b=>b=w.heap.size) (fun b hb=>⟨Nat.le_of_eq hb.symm,by subst hb;exact (r1.lt _ rfl).2⟩) ⟨r1,fun b hb=>by simp [Value.ownBlock] at hb;exact hb.symm⟩)
theorem zDP (hO:Own S W w l) {e:TypeId} {g n cap:Nat} {xs:List Value} (hp:Pick l (Row2 e 1 (some ⟨g,0,none⟩) n cap xs) l0) (hgd:o.guard=none) (d s:Operand) (dT sT:TypeId)
 (ho:o.op=.call { callee:=.builtin .copy,args:=#[d,s],argTypes:=#[dT,sT] }) (hu:P.underlying dT=some (.slice e)) (hsz:(P.info? e).map (·.size)=some 1)
 (off dLen dCap:Nat) (ad:Addr) (sLen sCap:Nat) (hd:a.eval d=.slice (some ⟨g,off,none⟩) dLen dCap) (hs:a.eval s=.slice (some ad) sLen sCap)
 (cs:List Value) (hn:cs.length=Nat.min sLen dLen) (hsrc:∀j v,cs[j]?=some v→w.cell? (ad.add j)=some v) (hfit:off+cs.length≤n) (h1:∀v∈cs,v.oneCell'=true)
 (h:∀w',Own S W w' (Row2 e 1 (some ⟨g,0,none⟩) n cap (splice xs off cs)::l0)→wpList P ops Q rest (a.put o.dst (goInt cs.length)) w'):wpList P ops Q (o::rest) a w:=by
 obtain ⟨M,Z,⟨h2,h3⟩,h4,_,k⟩:=(hO.pick hp).turn1;have hg:M g:=h3 g rfl;rcases h2.2 with ⟨hv,_⟩ | ⟨g',c,cur,hv,hb,hgg,hnc,hcm,hcs,ht⟩
 ·cases hv
 injection hv with q1 q2 q3
 injection q1 with q1
 injection q1 with q1
 subst q1;subst q3;have hxs:xs.length=n:=by have:=h2.1;omega
 have hcur:cur.toList.take n=xs:=by simpa using ht
 have hsize:cur.size=cap:=by omega
 refine wpList_plain hgd fun K hK=>?_
 unfold Oper.wp execOp;have hr:=run_copy_row (P:=P) w dT sT o.type e g off dLen dCap ad sLen sCap cur e cs hu hsz hgg hn hsrc (by omega) h1;simp only [ho,resolve,invoke,builtin,Sem.run_bind,Sem.run_pure,Result.andThen_ok,List.map_toArray,List.map_cons,List.map_nil,hd,hs,hr];have hheap:=setRow_heap w g cur (cur.toList.take off++cs++cur.toList.drop (off+cs.length)).toArray e (0,0) hgg;refine hK _ _ (h _ (k _ _ M ⟨rfl,rfl,rfl,by simp [World.setRow],fun k hk hM=>setRow_other w g k _ (fun e=>hM (by subst e;exact hg))⟩ (fun b h=>.inl h) (fun b hb=>by simpa [World.setRow] using (h4 b hb).1) ⟨⟨?_,.inr ⟨g,cap,_,rfl,hb,hheap,hnc,hcm,?_,?_⟩⟩,h3⟩))
 ·have:(splice xs off cs).length=xs.length:=length_splice xs off cs (by omega);omega
 ·have:cur.toList.length=cap:=by simpa using hsize
  simp;omega
 ·rw [Nat.mul_one];have hl:cur.toList.length=cap:=by simpa using hsize
  subst hcur;unfold splice;rw [List.append_assoc,List.take_append,List.take_append];have e1:(List.take n (cur.toList.take off))=List.take off (List.take n cur.toList):=by rw [List.take_take,List.take_take,Nat.min_comm]
  rw [e1,List.length_take,hl,Nat.min_eq_left (by omega),List.take_of_length_le (l:=cs) (by omega),List.take_drop]
  congr 3
  rw [show off+cs.length+(n-off-cs.length)=n from by omega]
theorem zAX (hO:Own S W w l) {r:Rs} (hp:Pick l r l0) (hgd:o.guard=none) (x:Operand) (src dst e:TypeId) (ho:o.op=.convert src dst x)
 (hs:P.underlying src=some (.slice e)) (he:P.underlying e=some (.int .u8)) (hd:P.underlying dst=some .string)
 (g off n cap:Nat) (ns:List Int) (hx:a.eval x=.slice (some ⟨g,off,none⟩) n cap) (hn:ns.length=n) (hv:∀j u,(ns.map (Value.int .u8))[j]?=some u→w.cell? ⟨g,off+j,none⟩=some u)
 (h:wpList P ops Q rest (a.put o.dst (.string (ns.foldl (fun r n=>r.push (UInt8.ofNat n.toNat)) ByteArray.empty))) w):wpList P ops Q (o::rest) a w:=by
 refine wpList_plain hgd fun K hK=>?_
 unfold Oper.wp execOp;have h1:=run_loadCells_list (P:=P) w ⟨g,off,none⟩ (ns.map (Value.int .u8)) (fun j v hj=>by rw [zBd];exact hv j v hj);rw [List.length_map,hn] at h1;have h2:=run_bytesToString (P:=P) w ⟨g,off,none⟩ n cap ns h1;simp only [ho,Sem.run_bind,hx,run_convert_bytes_string w src dst e _ _ _ hs he hd,h2,Result.andThen_ok,Sem.run_pure];exact hK _ _ h
theorem zAH (hO:Own S W w l) {e:TypeId} {size:Nat} {va:Option Addr} {n vc:Nat} {xs:List Value} (hp:Pick l (Row2 e size va n vc xs) l0) {g:Nat} {news:List Value} {t':TypeId} (hp2:Pick l0 (Var g news t') l1)
 (hgd:o.guard=none) (s x:Operand) (t:TypeId) (ho:o.op=.call { callee:=.builtin .append,args:=#[s,x],argTypes:=#[t,t] })
 (i:TypeInfo) (z:Value) (bytes:Nat) (ht:P.underlying t=some (.slice e)) (hi:P.info? e=some i) (hz:i.zero=some z)
 (hsize:i.size=size) (hby:i.bytes=bytes) (hzs:z.cells.size=size) (hsz:0<size) (hs:a.eval s=.slice va n vc)
 (m c:Nat) (hx:a.eval x=.slice (some ⟨g,0,none⟩) m c) (hl:news.length=m*size) (h1:∀u∈news,u.oneCell'=true)
 (h63:n+m≤maxLen) (hbytes:(n+m)*bytes≤140737488355328)
 (h:∀ka kc w',Own S W w' (Row2 e size ka (n+m) kc (xs++news)::l1)→wpList P ops Q rest (a.put o.dst (.slice ka (n+m) kc)) w'):wpList P ops Q (o::rest) a w:=by
 have hf:=((hO.pick hp).facts).2;refine zCt hO hp hgd s x t ho i z bytes ht hi hz hsize hby hzs hsz hs g 0 m c news hx hl (Var.at (t:=t') ((hO.pick hp).tail.factOf hp2)) h1 h63 hbytes fun ka kc w' hO'=>h ka kc w' ?_
 have:=hO'.pick (.there _ hp2);exact this.tail
end
section
variable {P:Program} {S:Nat→Prop} {W w:World} {l:List Rs} {ops:Array Oper} {I:World→Prop} {ord:List (Nat×Nat)} {a:Act} {Q:Exit→Act→World→Prop}
theorem zAV {cs:List Value} {t:TypeId} (hO:Own S W w l) (k:∀w',Own S W w' (Var w.heap.size cs t::l)→zA4 P ops I Q ord a w'):zA4 P ops I Q ord a (w.alloc (.cells cs.toArray t)):=k _ (hO.alloc cs t)
theorem zA0 {p:Addr} {v:Value} {L:List Rs} (hO:Own S W (w.setCell p v) L) (k:∀w',Own S W w' L→zA4 P ops I Q ord a w'):zA4 P ops I Q ord a (w.setCell p v):=k _ hO
end
theorem zEl {α:Type} {f:α→List Value} {k:Nat} (hf:∀x,(f x).length=k):∀{l:List α} {j:Nat} (h:j<l.length) (c:Nat) (v:Value),(f l[j])[c]?=some v→(l.flatMap f)[j*k+c]?=some v
 | [],j,h,_,_,_=>by simp at h
 | x::l,0,h,c,v,hv=>by
  simp only [List.flatMap_cons,Nat.zero_mul,Nat.zero_add];have hv':(f x)[c]?=some v:=hv;rw [List.getElem?_append_left (List.getElem?_eq_some_iff.1 hv').1];exact hv'
 | x::l,j+1,h,c,v,hv=>by
  have h1:(f x).length=k:=hf x;have h2:(f x).length≤(j+1)*k+c:=by rw [h1,Nat.succ_mul];omega
  have h3:(j+1)*k+c-(f x).length=j*k+c:=by rw [h1,Nat.succ_mul];omega
  rw [List.flatMap_cons,List.getElem?_append_right h2,h3];exact zEl hf (by simpa using h) c v hv
theorem zHZ {α:Type} {f:α→List Value} {k:Nat} (hf:∀x,(f x).length=k) (l:List α):(l.flatMap f).length=l.length*k:=by
 induction l with
 | nil=>simp
 | cons x l ih=>simp only [List.flatMap_cons,List.length_append,hf,ih,List.length_cons,Nat.succ_mul];omega
theorem zIX (v:Value) (n:Nat):(madeCells #[v] n).toList=List.replicate n v:=by
 apply List.ext_getElem
 ·simp [madeCells]
 ·intro i h1 h2;simp [madeCells,Nat.mod_one]
theorem zF4 {v:Value} (h:v.cells=#[v]) (n:Nat):(madeCells v.cells n).toList=List.replicate n v:=by rw [h,zIX]
theorem zPa (n:Nat):∀s:ByteArray,(List.replicate n (0:Int)).foldl (fun r n=>r.push (UInt8.ofNat n.toNat)) s=s++⟨Array.replicate n 0⟩:=by
 induction n with
 | zero=>intro s;apply ByteArray.ext;simp
 | succ n ih=>
  intro s;rw [List.replicate_succ,List.foldl_cons,ih];apply ByteArray.ext;apply Array.ext';simp [List.replicate_succ]
theorem zNo (n:Nat):(List.replicate n (0:Int)).foldl (fun r n=>r.push (UInt8.ofNat n.toNat)) ByteArray.empty=⟨Array.replicate n 0⟩:=by
 rw [zPa];apply ByteArray.ext;simp
section
variable {G H:Prop}
theorem sq_ (k:H) (h:H→G:=by (intro k9;(refine sy_ hO ?_);intro w9 hO;(try dsimp only [List.set] at hO);have hf:=fa_ hO;revert w9 hO hf;exact k9)):G:=h k
theorem du_ (k:H) (h:H→G:=by (intro k9;intro x9 w9 hO;dsimp only at hO ⊢;simp only [CA] at hO;have hf:=fa_ hO;revert x9 w9 hO hf;exact k9)):G:=h k
theorem ru_ (k:H) (h:H→G:=by (intro k9;intro w9 hx9 hO;clear hx9;dsimp only;have hf:=fa_ hO;revert w9 hO hf;exact k9)):G:=h k
theorem cu_ (k:H) (h:H→G:=by (intro k9;rintro e8 w8 ⟨rfl,hx8⟩;have hO:=hO.ext hx8;clear hx8;dsimp only;have hf:=fa_ hO;revert w8 hO hf;exact k9)):G:=h k
theorem si_ (k:H) (h:H→G:=by
 (intro k9
  repeat (first
   | (apply zAG _ rfl rfl rfl;focus (intro w8 K8 hK8;(repeat (first | go_skip | go_guarded | go_step));exact hK8))
   | (apply zCD _ rfl rfl rfl;focus (intro w8 hI8 K8 hK8;(try clear hf);have hf:=hI8.facts;(try simp only [FZ,Nat.reduceAdd] at hf);(repeat (first | go_skip | go_guarded | go_step));exact hK8)))
  exact k9)):G:=h k
theorem ds_ (k:H) (h:H→G:=by (intro k9;refine zAE rfl ?_;intro K8 hK8;(repeat (first | go_skip | go_guarded | go_step));refine hK8 _ _ trivial ?_;clear hK8 K8;with_reducible apply zA0;(focus (exact st_ hO));intro w9 hO;(try dsimp only [List.set] at hO);have hf:=fa_ hO;revert w9 hO hf;exact k9)):G:=h k
theorem ss_ {S:Nat→Prop} {W w:World} {l:List Rs} {G:World→Prop} (hO:Own S W w l) (k:H) (h:H→∀w',Own S W w' l→G w':=by
 (intro k9 w6 hO; have hf := fa_ hO
  repeat (first
   | (apply zAG _ rfl rfl rfl;focus (intro w8 K8 hK8;(repeat (first | go_skip | go_guarded | go_step));exact hK8))
   | (apply zAJ _ rfl rfl rfl;focus (intro w8 hx8 K8 hK8;have hO:=hO.ext hx8;have hf:=fa_ hO;(repeat (first | go_skip | go_guarded | go_step));exact hK8))
   | (apply zAL _ rfl;(focus (intro w8 hx8 K8 hK8;have hO:=hO.ext hx8;have hf:=fa_ hO;(repeat (first | go_skip | go_guarded | go_step));(first | exact xt_ | exact hK8 _ xt_)));(focus (exact rfl));intro w6 hx6;have hO:=hO.ext hx6;clear hx6;have hf:=fa_ hO))
  revert w6 hO hf
  exact k9)):G w:=h k w hO
end
theorem rg_ {S:Nat→Prop} {W w:World} {l:List Rs} {P:Program} {id:Nat} {ops:List Oper} {Q:Exit→Act→World→Prop} {a:Act} (hO:Own S W w l) (ord:List (Nat×Nat)) (h:∀w',Own S W w' l→zA4 P ops.toArray (fun _=>True) Q ord a w')
 (hm:P.follows .mixedOrders=true:=by kernel_rfl) (hB:zGL .any ops.toArray ord=true:=by kernel_rfl) (hlen:ord.length=ops.length:=by exact rfl) (hQ:∀c a d v w,Q (.panic c) (a.put d v) w→Q (.panic c) a w:=by (intro _ _ d _ _ h;cases d<;>exact h)):(Code.region id ops.toArray true).wp P Q a w:=
 zAW (fun _=>True) (fun _ _ _ _=>trivial) trivial ord hm hB hlen hQ fun w' hx=>h w' (hO.ext hx)
theorem Own.immOf {S:Nat→Prop} {W w:World} {l l':List Rs} {φ:World→Prop} (h:Own S W w l) (hp:Pick l (.imm φ) l'):φ w:=h.factOf hp
theorem Own.varAt {S:Nat→Prop} {W w:World} {l l':List Rs} {b k:Nat} {v:Value} {cs:List Value} {t:TypeId} (h:Own S W w l) (hp:Pick l (Var b cs t) l') (hk:cs[k]?=some v):w.cell? ⟨b,k,none⟩=some v:=
 Var.cells (t:=t) (show (Var b cs t).facts w from h.factOf hp).1 hk
theorem Own.named {S:Nat→Prop} {W w:World} {l:List Rs} {b:Nat} {cs:List Value} {t:TypeId} (h:Own S W w (Var b cs t::l)):∃g,g=b:=⟨b,rfl⟩
theorem zI6 {P:Program} (w:World) (t ty e:TypeId) (i:TypeInfo) (ht:P.underlying t=some (.slice e)) (hi:P.info? e=some i) (va ax:Option Addr) (n vc c:Nat) (hn:n≤vc) :
 (Builtin.append_ #[t,t] ty #[.slice va n vc,.slice ax 0 c]).run P w=.ok (.slice va n vc) w:=by
 cases va<;>cases ax<;>simp [Builtin.append_,run_underlying ht,sizeOf,typeInfo,hi,Builtin.lenOf,Builtin.firstCells,hn,storeCells,loadCells,loadCellsFrom]
section
variable {P:Program} {S:Nat→Prop} {W w:World} {l l' l0 l1:List Rs} {ops:Array Oper} {rest:List Oper} {a:Act} {Q:Exit→Act→World→Prop} {c:Code} {o:Oper}
theorem zDA (hO:Own S W w l) {e:TypeId} {size:Nat} {va:Option Addr} {n vc:Nat} {xs:List Value} (hp:Pick l (Row2 e size va n vc xs) l0) (hgd:o.guard=none) (s x:Operand) (t:TypeId)
 (ho:o.op=.call { callee:=.builtin .append,args:=#[s,x],argTypes:=#[t,t] })
 (i:TypeInfo) (z:Value) (bytes:Nat) (ht:P.underlying t=some (.slice e)) (hi:P.info? e=some i) (hz:i.zero=some z)
 (hsize:i.size=size) (hby:i.bytes=bytes) (hzs:z.cells.size=size) (hsz:0<size) (hs:a.eval s=.slice va n vc)
 (ax:Option Addr) (m c:Nat) (news:List Value) (hx:a.eval x=.slice ax m c) (hl:news.length=m*size) (hnews:ValsAt w ax news) (h1:∀u∈news,u.oneCell'=true)
 (h63:n+m≤maxLen) (hbytes:(n+m)*bytes≤140737488355328)
 (h:∀ka kc w',Own S W w' (Row2 e size ka (n+m) kc (xs++news)::l0)→wpList P ops Q rest (a.put o.dst (.slice ka (n+m) kc)) w'):wpList P ops Q (o::rest) a w:=by
 rcases hnews with rfl | ⟨g,off,rfl,hc⟩
 ·have hm:m=0:=by
   rcases Nat.eq_zero_or_pos m with h | h
   ·exact h
   ·have:=Nat.mul_pos h hsz;simp at hl;omega
  subst hm;have hle:=(hO.rowLen hp).2.1;refine wpList_plain hgd fun K hK=>?_
  unfold Oper.wp execOp;simp only [ho,resolve,invoke,builtin,Sem.run_bind,Sem.run_pure,Result.andThen_ok,List.map_toArray,List.map_cons,List.map_nil,hs,hx,zI6 w t o.type e i ht hi va ax n vc c hle];have:=h va vc w (by rw [List.append_nil];exact hO.pick hp);exact hK _ _ this
 ·exact zCt hO hp hgd s x t ho i z bytes ht hi hz hsize hby hzs hsz hs g off m c news hx hl (fun j u hj=>by
   obtain ⟨hlt,rfl⟩:=List.getElem?_eq_some_iff.1 hj;exact hc j hlt) h1 h63 hbytes h
end
inductive Plan where
 | done
 | pure (i:Nat) (t:Plan)
 | see (i:Nat) (t:Plan)
 | one (i:Nat) (t:Plan)
 | fork (i:Nat) (t:Plan) (j:Nat) (t':Plan)
 | fork3 (i:Nat) (t:Plan) (j:Nat) (t':Plan) (k:Nat) (t'':Plan)
section
variable {P:Program} {ops:Array Oper} {md:Region.Mode} {I:World→Prop}
def mkP (ps:List Nat) (i:Nat):Nat:=if ps.contains i then 0 else if ps.contains (i+1000) then 2 else 5
def zAb (P:Program) (ops:Array Oper) (I:World→Prop) (Q:Exit→Act→World→Prop):Plan→Act→World→Prop
 | .done,a,w=>Q .normal a w
 | .pure i t,a,w=>∃o,ops[i]?=some o∧zC5 o.op=true∧zBG o a=true∧∃a',(∀(w:World) (K:Exit→Act→World→Prop),K .normal a' w→wpList P ops K [o] a w)∧zAb P ops I Q t a' w
 | .see i t,a,w=>∃o,ops[i]?=some o∧zCz o.op=true∧zBG o a=true∧∃a',(∀w',I w'→∀K:Exit→Act→World→Prop,K .normal a' w'→wpList P ops K [o] a w')∧zAb P ops I Q t a' w
 | .one i t,a,w=>wpOp P ops Q i (fun a' w'=>I w'∧zAb P ops I Q t a' w') a w
 | .fork i t j t',a,w=>wpOp P ops Q i (fun a' w'=>I w'∧zAb P ops I Q t a' w') a w∧wpOp P ops Q j (fun a' w'=>I w'∧zAb P ops I Q t' a' w') a w
 | .fork3 i t j t' k t'',a,w=>wpOp P ops Q i (fun a' w'=>I w'∧zAb P ops I Q t a' w') a w∧wpOp P ops Q j (fun a' w'=>I w'∧zAb P ops I Q t' a' w') a w∧wpOp P ops Q k (fun a' w'=>I w'∧zAb P ops I Q t'' a' w') a w
def zBh (md:Region.Mode) (ops:Array Oper) (ps:List Nat):Nat→Plan→Array Bool→Bool
 | 0,.done,listed=>(Region.ready md ops listed).isEmpty
 | n+1,.pure i t,listed=>(Region.ready md ops listed).contains i&&Region.free md ops listed i&&decide (mkP ps i=0)&&zBh md ops ps n t (listed.setIfInBounds i true)
 | n+1,.see i t,listed=>(Region.ready md ops listed).contains i&&Region.free md ops listed i&&decide (mkP ps i=2)&&zBh md ops ps n t (listed.setIfInBounds i true)
 | n+1,.one i t,listed=>decide (Region.ready md ops listed=[i])&&decide (mkP ps i=5)&&(ops[i]?).isSome&&zBh md ops ps n t (listed.setIfInBounds i true)
 | n+1,.fork i t j t',listed=>decide (Region.ready md ops listed=[i,j])&&decide (mkP ps i=5)&&decide (mkP ps j=5)&&(ops[i]?).isSome&&(ops[j]?).isSome&&zBh md ops ps n t (listed.setIfInBounds i true)&&zBh md ops ps n t' (listed.setIfInBounds j true)
 | n+1,.fork3 i t j t' k t'',listed=>decide (Region.ready md ops listed=[i,j,k])&&decide (mkP ps i=5)&&decide (mkP ps j=5)&&decide (mkP ps k=5)&&(ops[i]?).isSome&&(ops[j]?).isSome&&(ops[k]?).isSome&&zBh md ops ps n t (listed.setIfInBounds i true)&&zBh md ops ps n t' (listed.setIfInBounds j true)&&zBh md ops ps n t'' (listed.setIfInBounds k true)
 | _,_,_=>false
theorem zDY {Q:Exit→Act→World→Prop} {i:Nat} {K:Act→World→Prop} {a:Act} {w:World} (ho:(ops[i]?).isSome=true)
 (h:wpOp P ops Q i (fun a' w'=>I w'∧K a' w') a w):opR P ops I Q 5 i K a w:=by
 obtain ⟨o,ho⟩:=Option.isSome_iff_exists.1 ho;exact zBJ ho h
theorem zBL {ps:List Nat} {Q:Exit→Act→World→Prop} (hs:Region.noSelect ops=true) (hQ:∀c a d v w,Q (.panic c) (a.put d v) w→Q (.panic c) a w) :
 ∀(t:Plan) (n:Nat) (listed:Array Bool) (a:Act) (w:World),I w→zBh md ops ps n t listed=true→zAb P ops I Q t a w→anyR P md ops I (mkP ps) Q n listed a w
 | .done,0,listed,a,w,hI,hB,h=>⟨by simpa [zBh] using hB,h⟩
 | .done,_+1,_,_,_,hI,hB,_=>by simp [zBh] at hB
 | .pure i t,0,_,_,_,hI,hB,_=>by simp [zBh] at hB
 | .see i t,0,_,_,_,hI,hB,_=>by simp [zBh] at hB
 | .one i t,0,_,_,_,hI,hB,_=>by simp [zBh] at hB
 | .fork i t j t',0,_,_,_,hI,hB,_=>by simp [zBh] at hB
 | .fork3 i t j t' k t'',0,_,_,_,hI,hB,_=>by simp [zBh] at hB
 | .pure i t,n+1,listed,a,w,hI,hB,h=>by
  simp only [zBh,Bool.and_eq_true,decide_eq_true_eq] at hB;obtain ⟨⟨⟨hr,hf⟩,hmk⟩,hB'⟩:=hB;obtain ⟨o,ho,hp,hfr,a',h1,h2⟩:=h;obtain ⟨v,hy,rfl⟩:=zKH hp hfr h1;exact zKs ho hmk (Region.noSelect_spec hs) (fun c a w=>hQ c a o.dst v w) n listed a w (Region.free_spec ho hf) (by simpa using hr) hy (zBL hs hQ t n _ _ _ hI hB' h2)
 | .see i t,n+1,listed,a,w,hI,hB,h=>by
  simp only [zBh,Bool.and_eq_true,decide_eq_true_eq] at hB;obtain ⟨⟨⟨hr,hf⟩,hmk⟩,hB'⟩:=hB;obtain ⟨o,ho,hp,hfr,a',h1,h2⟩:=h;obtain ⟨v,hy,rfl⟩:=zOc hI hp hfr h1;exact zMa ho hmk (Region.noSelect_spec hs) (fun c a w=>hQ c a o.dst v w) n listed a w (Region.free_spec ho hf) (by simpa using hr) hy (zBL hs hQ t n _ _ _ hI hB' h2)
 | .one i t,n+1,listed,a,w,hI,hB,h=>by
  simp only [zBh,Bool.and_eq_true,decide_eq_true_eq] at hB;obtain ⟨⟨⟨hr,hmk⟩,ho⟩,hB'⟩:=hB;refine ⟨fun h0=>(by rw [hr] at h0;cases h0),fun j hj=>?_⟩;rw [hr,List.mem_singleton] at hj;subst hj;rw [hmk];exact zDY ho (wpOp_mono (fun a' w' h'=>⟨h'.1,zBL hs hQ t n _ _ _ h'.1 hB' h'.2⟩) h)
 | .fork i t j t',n+1,listed,a,w,hI,hB,h=>by
  simp only [zBh,Bool.and_eq_true,decide_eq_true_eq] at hB;obtain ⟨⟨⟨⟨⟨⟨hr,hmi⟩,hmj⟩,hi⟩,hj⟩,hB1⟩,hB2⟩:=hB;refine ⟨fun h0=>(by rw [hr] at h0;cases h0),fun k hk=>?_⟩;rw [hr] at hk;rcases List.mem_cons.1 hk with rfl | hk
  ·rw [hmi];exact zDY hi (wpOp_mono (fun a' w' h'=>⟨h'.1,zBL hs hQ t n _ _ _ h'.1 hB1 h'.2⟩) h.1)
  ·rw [List.mem_singleton] at hk;subst hk;rw [hmj];exact zDY hj (wpOp_mono (fun a' w' h'=>⟨h'.1,zBL hs hQ t' n _ _ _ h'.1 hB2 h'.2⟩) h.2)
 | .fork3 i t j t' k t'',n+1,listed,a,w,hI,hB,h=>by
  simp only [zBh,Bool.and_eq_true,decide_eq_true_eq] at hB;obtain ⟨⟨⟨⟨⟨⟨⟨⟨⟨hr,hmi⟩,hmj⟩,hmk⟩,hi⟩,hj⟩,hk3⟩,hB1⟩,hB2⟩,hB3⟩:=hB;refine ⟨fun h0=>(by rw [hr] at h0;cases h0),fun m hm=>?_⟩;rw [hr] at hm;rcases List.mem_cons.1 hm with rfl | hm
  ·rw [hmi];exact zDY hi (wpOp_mono (fun a' w' h'=>⟨h'.1,zBL hs hQ t n _ _ _ h'.1 hB1 h'.2⟩) h.1)
  ·rcases List.mem_cons.1 hm with rfl | hm
   ·rw [hmj];exact zDY hj (wpOp_mono (fun a' w' h'=>⟨h'.1,zBL hs hQ t' n _ _ _ h'.1 hB2 h'.2⟩) h.2.1)
   ·rw [List.mem_singleton] at hm;subst hm;rw [hmk];exact zDY hk3 (wpOp_mono (fun a' w' h'=>⟨h'.1,zBL hs hQ t'' n _ _ _ h'.1 hB3 h'.2⟩) h.2.2)
def zG1 (ops:Array Oper) (ps:List Nat) (t:Plan):Bool:=Region.noSelect ops&&zBh .any ops ps ops.size t (Array.replicate ops.size false)
theorem zFP {id:Nat} {l:List Oper} {Q:Exit→Act→World→Prop} {a:Act} {w:World} (ps:List Nat) (t:Plan) (hm:P.follows .mixedOrders=true)
 (hB:zG1 l.toArray ps t=true) (hQ:∀c a d v w,Q (.panic c) (a.put d v) w→Q (.panic c) a w)
 (h:∀w',Ext w w'→zAb P l.toArray (fun _=>True) Q t a w'):(Code.region id l.toArray true).wp P Q a w:=by
 simp only [zG1,Bool.and_eq_true] at hB;refine wp_region_any hm (zDk (mk:=mkP ps) (I:=fun _=>True) (fun _ _ _ _=>trivial) _ _ _ _ trivial ?_);have:=zBL (md:=.any) (ps:=ps) hB.1 hQ t l.toArray.size (Array.replicate l.toArray.size false) a w.drew trivial hB.2 (h _ (Ext.drew_self w));simpa using this
theorem zBB {Q:Exit→Act→World→Prop} {a:Act} {w:World} {i:Nat} {t:Plan} {l:List Oper} {o:Oper} (a':Act) (ho:nth l i=some o) (hp:zC5 o.op=true) (hf:zBG o a=true)
 (h:∀(w:World) (K:Exit→Act→World→Prop),K .normal a' w→wpList P l.toArray K [o] a w) (hr:zAb P l.toArray I Q t a' w):zAb P l.toArray I Q (.pure i t) a w:=⟨o,(zBT l i).symm.trans ho,hp,hf,a',h,hr⟩
theorem zBu {Q:Exit→Act→World→Prop} {a:Act} {w:World} {i:Nat} {t:Plan} {l:List Oper} {o:Oper} (a':Act) (ho:nth l i=some o) (hp:zCz o.op=true) (hf:zBG o a=true)
 (h:∀w',I w'→∀(K:Exit→Act→World→Prop),K .normal a' w'→wpList P l.toArray K [o] a w') (hr:zAb P l.toArray I Q t a' w):zAb P l.toArray I Q (.see i t) a w:=⟨o,(zBT l i).symm.trans ho,hp,hf,a',h,hr⟩
theorem zDq {Q:Exit→Act→World→Prop} {a:Act} {w:World} {i:Nat} {t:Plan} {l:List Oper} {o:Oper} (ho:nth l i=some o)
 (h:∀K:Exit→Act→World→Prop,(∀a w,zAb P l.toArray (fun _=>True) Q t a w→K .normal a w)→wpList P l.toArray K [o] a w):zAb P l.toArray (fun _=>True) Q (.one i t) a w:=
 zBA ((zBT l i).symm.trans ho) fun K hK=>h K fun a' w' h2=>hK a' w' ⟨trivial,h2⟩
theorem zFH {Q:Exit→Act→World→Prop} {a:Act} {w:World} {i j:Nat} {t t':Plan} {l:List Oper} {o o':Oper} (ho:nth l i=some o) (ho':nth l j=some o')
 (h:∀K:Exit→Act→World→Prop,(∀a w,zAb P l.toArray (fun _=>True) Q t a w→K .normal a w)→wpList P l.toArray K [o] a w)
 (h':∀K:Exit→Act→World→Prop,(∀a w,zAb P l.toArray (fun _=>True) Q t' a w→K .normal a w)→wpList P l.toArray K [o'] a w):zAb P l.toArray (fun _=>True) Q (.fork i t j t') a w:=
 ⟨zBA ((zBT l i).symm.trans ho) fun K hK=>h K fun a' w' h2=>hK a' w' ⟨trivial,h2⟩,zBA ((zBT l j).symm.trans ho') fun K hK=>h' K fun a' w' h2=>hK a' w' ⟨trivial,h2⟩⟩
theorem zMo {Q:Exit→Act→World→Prop} {a:Act} {w:World} {i j k:Nat} {t t' t'':Plan} {l:List Oper} {o o' o'':Oper} (ho:nth l i=some o) (ho':nth l j=some o') (ho'':nth l k=some o'')
 (h:∀K:Exit→Act→World→Prop,(∀a w,zAb P l.toArray (fun _=>True) Q t a w→K .normal a w)→wpList P l.toArray K [o] a w)
 (h':∀K:Exit→Act→World→Prop,(∀a w,zAb P l.toArray (fun _=>True) Q t' a w→K .normal a w)→wpList P l.toArray K [o'] a w)
 (h'':∀K:Exit→Act→World→Prop,(∀a w,zAb P l.toArray (fun _=>True) Q t'' a w→K .normal a w)→wpList P l.toArray K [o''] a w):zAb P l.toArray (fun _=>True) Q (.fork3 i t j t' k t'') a w:=
 ⟨zBA ((zBT l i).symm.trans ho) fun K hK=>h K fun a' w' h2=>hK a' w' ⟨trivial,h2⟩,zBA ((zBT l j).symm.trans ho') fun K hK=>h' K fun a' w' h2=>hK a' w' ⟨trivial,h2⟩,zBA ((zBT l k).symm.trans ho'') fun K hK=>h'' K fun a' w' h2=>hK a' w' ⟨trivial,h2⟩⟩
theorem zBV {Q:Exit→Act→World→Prop} {a:Act} {w:World} (h:Q .normal a w):zAb P ops I Q .done a w:=h
theorem zAz {S:Nat→Prop} {W w:World} {l:List Rs} {t:Plan} {a:Act} {Q:Exit→Act→World→Prop} {cs:List Value} {ty:TypeId} (hO:Own S W w l) (k:∀w',Own S W w' (Var w.heap.size cs ty::l)→zAb P ops I Q t a w'):zAb P ops I Q t a (w.alloc (.cells cs.toArray ty)):=k _ (hO.alloc cs ty)
end
theorem pv_ {G H:Prop} (k:H) (h:H→G:=by
 (intro k9
  repeat (first|(apply zBB _ rfl rfl rfl;focus (intro w8 K8 hK8;(repeat (first | go_skip | go_guarded | go_step));exact hK8))|(apply zBu _ rfl rfl rfl;focus (intro w8 hI8 K8 hK8;(repeat (first | go_skip | go_guarded | go_step));exact hK8)));exact k9)):G:=h k
section
variable {P:Program} {I:World→Prop}
theorem zDf {id:Nat} {l:List Oper} {Q:Exit→Act→World→Prop} {a:Act} {w:World} (I:World→Prop) (hIx:∀w w',I w→Ext w w'→I w') (hI:I w) (ps:List Nat) (t:Plan) (hm:P.follows .mixedOrders=true)
 (hB:zG1 l.toArray ps t=true) (hQ:∀c a d v w,Q (.panic c) (a.put d v) w→Q (.panic c) a w)
 (h:∀w',Ext w w'→zAb P l.toArray I Q t a w'):(Code.region id l.toArray true).wp P Q a w:=by
 simp only [zG1,Bool.and_eq_true] at hB;refine wp_region_any hm (zDk (mk:=mkP ps) hIx _ _ _ _ (hIx _ _ hI (Ext.drew_self w)) ?_);have:=zBL (md:=.any) (ps:=ps) hB.1 hQ t l.toArray.size (Array.replicate l.toArray.size false) a w.drew (hIx _ _ hI (Ext.drew_self w)) hB.2 (h _ (Ext.drew_self w));simpa using this
theorem zAo {Q:Exit→Act→World→Prop} {a:Act} {w:World} {i:Nat} {t:Plan} {l:List Oper} {o:Oper} (ho:nth l i=some o)
 (h:∀K:Exit→Act→World→Prop,(∀a w,I w→zAb P l.toArray I Q t a w→K .normal a w)→wpList P l.toArray K [o] a w):zAb P l.toArray I Q (.one i t) a w:=
 zBA ((zBT l i).symm.trans ho) fun K hK=>h K fun a' w' hi h2=>hK a' w' ⟨hi,h2⟩
theorem zDd {Q:Exit→Act→World→Prop} {a:Act} {w:World} {i j:Nat} {t t':Plan} {l:List Oper} {o o':Oper} (ho:nth l i=some o) (ho':nth l j=some o')
 (h:∀K:Exit→Act→World→Prop,(∀a w,I w→zAb P l.toArray I Q t a w→K .normal a w)→wpList P l.toArray K [o] a w)
 (h':∀K:Exit→Act→World→Prop,(∀a w,I w→zAb P l.toArray I Q t' a w→K .normal a w)→wpList P l.toArray K [o'] a w):zAb P l.toArray I Q (.fork i t j t') a w:=
 ⟨zBA ((zBT l i).symm.trans ho) fun K hK=>h K fun a' w' hi h2=>hK a' w' ⟨hi,h2⟩,zBA ((zBT l j).symm.trans ho') fun K hK=>h' K fun a' w' hi h2=>hK a' w' ⟨hi,h2⟩⟩
end
