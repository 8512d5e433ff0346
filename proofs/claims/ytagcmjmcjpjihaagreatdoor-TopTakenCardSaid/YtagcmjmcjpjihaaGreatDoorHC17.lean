/- Texts Ver, Ver2, Ver3 of this claim, laid together. -/
import Derived.Test.YtagcmjmcjpjihaaGreatDoorHC5
import Derived.Test.YtagcmjmcjpjihaaGreatDoorHC15
set_option linter.unusedVariables false
set_option linter.unusedSimpArgs false
set_option maxHeartbeats 8000000
set_option maxRecDepth 100000
namespace Go.Proofs.YtagcmjmcjpjihaaGreatDoor
open Go.RowKit
theorem Stars.perm {w:World} {l l':List Rs} (h:l.Perm l'):∀{M Z:Nat→Prop},Stars w l M Z→Stars w l' M Z:=by
 induction h with
 | nil=>exact fun h=>h
 | cons x _ ih=>exact fun ⟨M1,M2,h1,h2,r⟩=>⟨M1,M2,h1,ih h2,r⟩
 | swap x y l=>exact fun h=>(Pick.there y (Pick.here x l)).stars h
 | trans _ _ ih1 ih2=>exact fun h=>ih2 (ih1 h)
theorem Own.perm {S:Nat→Prop} {W w:World} {l l':List Rs} (h:Own S W w l) (hp:l.Perm l'):Own S W w l':=by
 obtain ⟨hc,M,Z,hs,rest⟩:=h;exact ⟨hc,M,Z,hs.perm hp,rest⟩
theorem zGq {w:World}:∀{l:List Rs} {r:Rs},zDo w l→r∈l→r.facts w
 | _::_,_,h,.head _=>h.1
 | _::_,_,h,.tail _ hm=>zGq h.2 hm
structure VE where
 key:ByteArray
 born:Nat
 addr:Option Addr
 cap:Nat
 vs:List Vn
def VE.en (e:VE):En:=⟨e.key,.slice e.addr e.vs.length e.cap,e.born⟩
def VE.row (e:VE):Rs:=Row2 239 3 e.addr e.vs.length e.cap (e.vs.flatMap verC)
def VE.kv (e:VE):ByteArray×List Vn:=(e.key,e.vs)
structure VesOk (L:List VE) (clock:Nat):Prop where
 keys:(L.map VE.key).Nodup
 borns:(L.map VE.born).Nodup
 lt:∀e∈L,e.born<clock
def Rows (L:List VE):Rs:=.many (L.map VE.row)
def VerR (p:Nat) (nn:Nat) (V:List (ByteArray×List Vn)):Rs:=.ex fun x:Nat×Nat×List VE=>.many (Var p [.map (some x.1),.int .i64 nn] 236::MapR x.1 (x.2.2.map VE.en) x.2.1::.pure (x.2.2.map VE.kv=V∧VesOk x.2.2 x.2.1)::[Rows x.2.2])
def getV (V:List (ByteArray×List Vn)) (k:ByteArray):Option (List Vn):=(V.find? fun e=>decide (e.1=k)).map (·.2)
def zAU (V:List (ByteArray×List Vn)) (k:ByteArray) (n:Int):ByteArray×Bool:=atV ((getV V k).getD []) n
theorem zOJ (k:ByteArray):∀(L:List VE),(getE k (L.map VE.en)=none∧getV (L.map VE.kv) k=none)∨∃e∈L,e.key=k∧getE k (L.map VE.en)=some (.slice e.addr e.vs.length e.cap)∧getV (L.map VE.kv) k=some e.vs
 | []=>.inl ⟨rfl,rfl⟩
 | x::l=>by
  by_cases h:x.key=k
  ·refine .inr ⟨x,List.mem_cons_self ..,h,?_,?_⟩
   ·unfold getE;rw [List.map_cons,zAg,if_pos (show (VE.en x).key=k from h)];rfl
   ·unfold getV;rw [List.map_cons,List.find?_cons_of_pos (p:=fun e:ByteArray×List Vn=>decide (e.1=k)) (decide_eq_true (show (VE.kv x).1=k from h))];rfl
  ·have e1:getE k ((x::l).map VE.en)=getE k (l.map VE.en):=by
    unfold getE;rw [List.map_cons,zAg,if_neg (show ¬(VE.en x).key=k from h)];cases zAg k (l.map VE.en)<;>rfl
   have e2:getV ((x::l).map VE.kv) k=getV (l.map VE.kv) k:=by
    unfold getV;rw [List.map_cons,List.find?_cons_of_neg (p:=fun e:ByteArray×List Vn=>decide (e.1=k)) (by rw [decide_eq_true_iff];exact fun h'=>h h')]
   rw [e1,e2];rcases zOJ k l with h1 | ⟨e,h1,h2⟩
   ·exact .inl h1
   ·exact .inr ⟨e,List.mem_cons_of_mem _ h1,h2⟩
section
variable {S:Nat→Prop} {W w:World} {l:List Rs} {e:VE} {L L':List VE}
theorem Own.outRow (h:Own S W w (Rows L::l)) (hp:L.Perm (e::L')):Own S W w (e.row::Rows L'::l):=by
 have h2:=h.unpack.perm ((hp.map VE.row).append_right l);rw [List.map_cons,List.cons_append] at h2;exact ((h2.perm List.perm_middle.symm).pack).perm (List.Perm.swap _ _ _)
theorem Own.inRow (h:Own S W w (e.row::Rows L'::l)) (hp:L.Perm (e::L')):Own S W w (Rows L::l):=by
 have h2:=(h.perm (List.Perm.swap _ _ _)).unpack.perm List.perm_middle;exact (show Own S W w (((e::L').map VE.row)++l) from h2).perm ((hp.symm.map VE.row).append_right l) |>.pack
end
section
variable {P:Program} {w:World} {ops:Array Oper} {rest:List Oper} {a:Act} {Q:Exit→Act→World→Prop} {o:Oper} {b clock:Nat} {E:List En} {t kt e:TypeId} {k:ByteArray}
theorem zEN (hb:w.heap[b]?=some (mapO E clock)) (hg:o.guard=none) (m x:Operand) (hop:o.op=Op.lookup t m x false) (ht:P.underlying t=some (.map kt e)) (hk:P.underlying kt=some .string)
 (z:Value) (hz:(zeroValue e).run P w=.ok z w) (hm:a.eval m=.map (some b)) (hx:a.eval x=.string k) (v:Value) (hv:(getE k E).getD z=v) (h:wpList P ops Q rest (a.put o.dst v) w):wpList P ops Q (o::rest) a w:=by
 refine wpList_plain hg fun K' hK'=>?_
 have hrun:=zK4 (k:=k) (w:=w) false ht hk hz hb;unfold Oper.wp;simp [execOp,hop,hm,hx,hrun,Result.andThen,hv];exact hK' _ _ h
end
theorem Tryz.zeroVs (w:World):(zeroValue 237).run Tryz.prog w=.ok (.slice none 0 0) w:=by kernel_rfl
theorem zNr (p nn:Nat) (V:List (ByteArray×List Vn)) (k:ByteArray) (n:Int) (hlen:∀e∈V,e.2.length≤1000000) :
 Reads Tryz.prog 115 #[.pointer (some ⟨p,0,none⟩),.string k,.int .i64 n] [VerR p nn V] (.tuple #[.string (zAU V k n).1,.bool (zAU V k n).2]):=by
 intro w L0 hO;simp only [FZ] at hO;obtain ⟨⟨b,clock,L⟩,hO⟩:=hO.frzEx;replace hO:=hO.frzMany;dsimp only at hO;simp only [FZ] at hO;(replace hf:=fa_ hO);obtain ⟨hV,hok⟩:L.map VE.kv=V∧VesOk L clock:=hO.factOf (r:=.frz (.pure (L.map VE.kv=V∧VesOk L clock))) pk_;have hb:w.heap[b]?=some (mapO (L.map VE.en) clock):=(show (MapR b (L.map VE.en) clock).facts w from hO.factOf (r:=.frz (MapR b (L.map VE.en) clock)) pk_).1;have hk:=Tryz.underlying9;subst hV;have hat:∃(a:Option Addr) (c:Nat) (vs:List Vn),(getE k (L.map VE.en)).getD (.slice none 0 0)=.slice a vs.length c∧zAU (L.map VE.kv) k n=atV vs n∧vs.length≤1000000∧ValsAt w a (vs.flatMap verC):=by
  rcases zOJ k L with ⟨h1,h2⟩ | ⟨e,h1,h2,h3,h4⟩
  ·refine ⟨none,0,[],by rw [h1];rfl,by unfold zAU;rw [h2];rfl,by simp,.inl rfl⟩
  ·refine ⟨e.addr,e.cap,e.vs,by rw [h3];rfl,by unfold zAU;rw [h4];rfl,hlen e.kv (List.mem_map.2 ⟨e,h1,rfl⟩),?_⟩;have h5:zDo w (L.map VE.row):=hO.factOf (r:=.frz (Rows L)) pk_;exact (zGq h5 (List.mem_map.2 ⟨e,h1,rfl⟩):e.row.facts w).1
 obtain ⟨a,c,vs,h1,h2,h3,h4⟩:=hat;have HA:=zPn a c vs n h3 w h4;have hz:=Tryz.zeroVs w;have H2:=Lib.hid h2;clear h2;clear hok hlen;go_enter Tryz.func115,Tryz.ntmps115;go_wp2_with (first|(at_lookup;(refine zEN hb rfl _ _ rfl Tryz.underlying234 hk _ hz rfl rfl _ h1 ?_))|(go_at_call 199;(with_reducible refine Calls.mono HA ?_;rintro e8 w8 ⟨rfl,hx8⟩;replace hO:=hO.ext hx8;clear hx8;dsimp only))|(refine sq_ ?_;clear hO hf;intro w9 hO hf));(first | go_ret2 | go_ret);rw [H2.out];exact ⟨rfl,hO.toExt⟩
def cntV (V:List (ByteArray×List Vn)):Nat:=(V.map fun e=>e.2.length).sum
def zCe (seen:List Nat):List VE→Nat
 | []=>0
 | e::l=>(if e.born∈seen then 0 else 1)+zCe seen l
def zFO (r:Nat) (w:World):List Nat:=match w.heap[r]? with
 | some (.mapIter _ _ s _)=>s.toList
 | _=>[]
theorem zAr {S:Nat→Prop} {W w:World} {l l0:List Rs} {r b since c0:Nat} {seen:List Nat} (hO:Own S W w l) (hp:Pick l (ItR r b since seen c0) l0):zFO r w=seen:=by
 have h:w.heap[r]?=some (.mapIter (some b) since seen.toArray c0):=hO.obAt hp;unfold zFO;rw [h]
theorem zMq {seen:List Nat} {b:Nat}:∀L:List VE,zCe (seen++[b]) L≤zCe seen L
 | []=>Nat.le_refl _
 | e::l=>by
  have h:=zMq (seen:=seen) (b:=b) l;rw [zCe,zCe];by_cases h1:e.born∈seen
  ·rw [if_pos h1,if_pos (by simp [h1])];omega
  ·rw [if_neg h1];split<;>omega
theorem zEt {seen:List Nat} {e:VE}:∀{L:List VE},e∈L→e.born∉seen→zCe (seen++[e.born]) L<zCe seen L
 | x::l,hm,h=>by
  rcases List.mem_cons.1 hm with rfl | hm
  ·have h1:=zMq (seen:=seen) (b:=e.born) l;rw [zCe,zCe,if_pos (by simp),if_neg h];omega
  ·have h1:=zEt hm h;rw [zCe,zCe];by_cases h2:x.born∈seen
   ·rw [if_pos h2,if_pos (by simp [h2])];omega
   ·rw [if_neg h2];split<;>omega
theorem zAj {α:Type} (f:α→List Value) (s:Nat) (hf:∀x,(f x).length=s):∀(l:List α) (i:Nat) (hi:i<l.length) (c:Nat),c<s→(l.flatMap f)[i*s+c]?=(f l[i])[c]?
 | x::l,0,_,c,hc=>by
  rw [List.flatMap_cons,List.getElem?_append_left (by rw [hf];omega)];simp
 | x::l,i+1,hi,c,hc=>by
  have e:(i+1)*s+c=s+(i*s+c):=by rw [Nat.succ_mul];omega
  rw [List.flatMap_cons,List.getElem?_append_right (by rw [hf];omega),hf,e,Nat.add_sub_cancel_left,zAj f s hf l i (by simpa using hi) c hc];rfl
theorem zEz {α:Type} (f:α→List Value) (s:Nat) (hf:∀x,(f x).length=s):∀(l:List α),(l.flatMap f).length=l.length*s
 | []=>by simp
 | x::l=>by rw [List.flatMap_cons,List.length_append,hf,zEz f s hf l,List.length_cons,Nat.succ_mul];omega
structure Rw where
 key:ByteArray
 val:ByteArray
def rwC (r:Rw):List Value:=[.string r.key,.string r.val]
def newV (l:List Rw):List (ByteArray×List Vn):=l.map fun r=>(r.key,[⟨0,r.val,false⟩])
theorem zEF {k:ByteArray}:∀{E:List En},(∀x∈E,x.key≠k)→getE k E=none
 | [],_=>rfl
 | x::l,h=>by
  have h1:=zEF (k:=k) fun y hy=>h y (List.mem_cons_of_mem x hy)
  unfold getE at h1 ⊢;rw [zAg,if_neg (h x (List.mem_cons_self ..))];cases hl:zAg k l with
  | none=>rfl
  | some p=>rw [hl] at h1;cases h1
theorem VesOk.add {L:List VE} {clock:Nat} (h:VesOk L clock) (e:VE) (hk:∀x∈L,x.key≠e.key) (hb:e.born=clock):VesOk (L++[e]) (clock+1) where
 keys:=by
  rw [List.map_append,List.nodup_append];exact ⟨h.keys,by simp,fun a ha b hb he=>by
   obtain ⟨x,hx,rfl⟩:=List.mem_map.1 ha;simp at hb;exact hk x hx (by rw [he,hb])⟩
 borns:=by
  rw [List.map_append,List.nodup_append];exact ⟨h.borns,by simp,fun a ha b hb' he=>by
   obtain ⟨x,hx,rfl⟩:=List.mem_map.1 ha;simp at hb';have:=h.lt x hx;omega⟩
 lt:=fun x hx=>by
  rcases List.mem_append.1 hx with hx | hx
  ·have:=h.lt x hx;omega
  ·simp at hx;rw [hx,hb];omega
section
variable {P:Program} {S:Nat→Prop} {W w:World} {l:List Rs} {ops:Array Oper} {rest:List Oper} {a:Act} {Q:Exit→Act→World→Prop} {o:Oper} {t:TypeId}
theorem zFG (hO:Own S W w l) (hg:o.guard=none) (hop:o.op=Op.makeMap t none)
 (h:∀b w',Own S W w' (MapR b [] 0::l)→wpList P ops Q rest (a.put o.dst (.map (some b))) w'):wpList P ops Q (o::rest) a w:=by
 refine wpList_plain hg fun K' hK'=>?_
 have hrun:=run_makeMap (P:=P) t w;unfold Oper.wp;simp [execOp,hop,hrun,Result.andThen];exact hK' _ _ (h _ _ (hO.newOb _))
end
theorem Own.noRows {S:Nat→Prop} {W w:World} {l:List Rs} (h:Own S W w l):Own S W w (Rows []::l):=Own.pack (rs:=[]) h
theorem zIY (k:ByteArray):∀L:List VE,(getE k (L.map VE.en)=none∧∀x∈L,x.key≠k)∨∃A e B,L=A++e::B∧e.key=k∧∀x∈A,x.key≠k
 | []=>.inl ⟨rfl,fun _ h=>(List.not_mem_nil h).elim⟩
 | x::l=>by
  by_cases h:x.key=k
  ·exact .inr ⟨[],x,l,rfl,h,fun _ h=>(List.not_mem_nil h).elim⟩
  ·rcases zIY k l with ⟨h1,h2⟩ | ⟨A,e,B,rfl,h1,h2⟩
   ·have h3:∀y∈x::l,y.key≠k:=fun y hy=>by
     rcases List.mem_cons.1 hy with rfl | hy
     ·exact h
     ·exact h2 y hy
    exact .inl ⟨zEF fun y hy=>by obtain ⟨z,hz,rfl⟩:=List.mem_map.1 hy;exact h3 z hz,h3⟩
   ·exact .inr ⟨x::A,e,B,rfl,h1,fun y hy=>by
     rcases List.mem_cons.1 hy with rfl | hy
     ·exact h
     ·exact h2 y hy⟩
theorem zGw {k:ByteArray} {e:VE} {B:List VE} (hk:e.key=k):∀{A:List VE},(∀x∈A,x.key≠k)→getE k ((A++e::B).map VE.en)=some (VE.en e).val
 | [],_=>by unfold getE;rw [List.nil_append,List.map_cons,zAg,if_pos (show (VE.en e).key=k from hk)];rfl
 | x::A,h=>by
  have h1:=zGw (B:=B) hk (A:=A) fun y hy=>h y (List.mem_cons_of_mem _ hy)
  unfold getE at h1 ⊢;rw [List.cons_append,List.map_cons,zAg,if_neg (show ¬(VE.en x).key=k from h x (List.mem_cons_self ..))];cases hl:zAg k ((A++e::B).map VE.en) with
  | none=>rw [hl] at h1;cases h1
  | some p=>rw [hl] at h1;exact h1
theorem zDW {k:ByteArray} {e e':VE} {B:List VE} (hk:e.key=k) (hk':e'.key=k) (hb:e'.born=e.born):∀{A:List VE},(∀x∈A,x.key≠k)→setE k (VE.en e').val ((A++e::B).map VE.en)=(A++e'::B).map VE.en
 | [],_=>by
  rw [List.nil_append,List.map_cons,setE,if_pos (show (VE.en e).key=k from hk),List.nil_append,List.map_cons];have:(⟨k,(VE.en e').val,(VE.en e).born⟩:En)=VE.en e':=by
   unfold VE.en;rw [hk',hb]
  rw [this]
 | x::A,h=>by
  have h1:=zDW (B:=B) hk hk' hb (A:=A) fun y hy=>h y (List.mem_cons_of_mem _ hy)
  rw [List.cons_append,List.map_cons,setE,if_neg (show ¬(VE.en x).key=k from h x (List.mem_cons_self ..)),h1];rfl
theorem VesOk.put {A B:List VE} {e e':VE} {clock:Nat} (h:VesOk (A++e::B) clock) (hk:e'.key=e.key) (hb:e'.born=e.born):VesOk (A++e'::B) clock where
 keys:=by
  have:=h.keys;rw [List.map_append,List.map_cons] at this ⊢;rw [hk];exact this
 borns:=by
  have:=h.borns;rw [List.map_append,List.map_cons] at this ⊢;rw [hb];exact this
 lt:=fun x hx=>by
  rcases List.mem_append.1 hx with hx | hx
  ·exact h.lt x (List.mem_append_left _ hx)
  ·rcases List.mem_cons.1 hx with rfl | hx
   ·rw [hb];exact h.lt e (List.mem_append_right _ (List.mem_cons_self ..))
   ·exact h.lt x (List.mem_append_right _ (List.mem_cons_of_mem _ hx))
theorem Tryz.infoVn:(Tryz.prog.info? 239).map (fun i=>(i.zero,i.size,i.bytes))=some (some (.agg #[.int .i64 0,.string ⟨#[]⟩,.bool false]),3,32):=by kernel_rfl
theorem zQa (a:Option Addr) (n cap:Nat) (l:List Rw) (hn:l.length=n) (hn2:n≤1000) (hnd:(l.map Rw.key).Nodup) :
 Does Tryz.prog 82 #[.slice a n cap] [.imm fun w=>ValsAt w a (l.flatMap rwC)]
  (fun p:Nat=>(.pointer (some ⟨p,0,none⟩),[VerR p 0 (newV l),.imm fun w=>ValsAt w a (l.flatMap rwC)])):=by
 intro S W w L0 hO;simp only [CA] at hO;(replace hf:=fa_ hO);go_enter Tryz.func82,Tryz.ntmps82;go_wp2_with (first|((with_reducible show wpList _ _ _ (Oper.mk _ (.makeMap _ _) _ _ _ _::_) _ _);(refine zFG hO rfl rfl ?_;clear hO;intro b9 w9 hO;(replace hf:=fa_ hO)))|(refine sq_ ?_;clear hO;(try clear hf);intro w9 hO hf));obtain ⟨p,hg9⟩:=(hO.pick (r:=Var _ [.map (some b9),.int .i64 0] 236) pk_).named;rw [←hg9];rw [←hg9,show (0:Int)=((0:Nat):Int) from rfl] at hO;clear hg9;have hO9:=hO;clear hO hf;go_loopw [11] (fun v wr=>∃(i clock:Nat) (L:List VE),v=.int .i64 i∧i≤n∧Hid (L.map VE.kv=newV (l.take i)∧VesOk L clock)∧Own S W wr ([Var p [.map (some b9),.int .i64 ((0:Nat):Int)] 236,MapR b9 (L.map VE.en) clock,Rows L,.imm fun w=>ValsAt w a (l.flatMap rwC)]++L0)) (fun v _=>n-(intOf v).toNat)
 case atStart=>
  refine ⟨0,0,[],rfl,by omega,Lib.hid ⟨rfl,⟨List.nodup_nil,List.nodup_nil,fun _ h=>(List.not_mem_nil h).elim⟩⟩,?_⟩;have hO:=hO9.noRows;(try simp only [CA]);rw [List.map_nil];exact hO.cut sb_
 case round=>
  clear hO9;obtain ⟨i,clock,L,rfl,hi,HL,hO⟩:=hrel;rename World=>w1
  simp only [List.cons_append,List.nil_append] at hO;(replace hf:=fa_ hO);by_cases hlt:i<n
  ·have hi2:i<l.length:=by omega
   have g0:=zAj rwC 2 (fun _=>rfl) l i hi2 0 (by omega);have g1:=zAj rwC 2 (fun _=>rfl) l i hi2 1 (by omega);obtain ⟨b,off,rfl⟩:=ValsAt.some (a:=a) (Own.immOf (φ:=fun w=>ValsAt w a (l.flatMap rwC)) hO pk_) g0;have c0:w1.cell? ⟨b,off+i*2,none⟩=some (.string l[i].key):=ValsAt.get (Own.immOf (φ:=fun w=>ValsAt w (some ⟨b,off,none⟩) (l.flatMap rwC)) hO pk_) g0;have c1:w1.cell? ⟨b,off+i*2+1,none⟩=some (.string l[i].val):=ValsAt.get (Own.immOf (φ:=fun w=>ValsAt w (some ⟨b,off,none⟩) (l.flatMap rwC)) hO pk_) g1;clear g0 g1;have hrow:=List.getElem_mem hi2;have hne:∀e∈L,e.key≠l[i].key:=fun e he' he=>by
    have h1:e.kv∈newV (l.take i):=HL.out.1 ▸ List.mem_map.2 ⟨e,he',rfl⟩;obtain ⟨r,hr,hr2⟩:=List.mem_map.1 h1;obtain ⟨j,hj,hj2⟩:=List.mem_iff_getElem.1 hr;have hj3:j<i:=by simp at hj;omega
    have h2:(l.map Rw.key)[j]'(by simp;omega)=(l.map Rw.key)[i]'(by simp;omega):=by
     rw [List.getElem_map,List.getElem_map,←he,←show (VE.kv e).1=e.key from rfl,←hr2];simp at hj2;rw [←hj2]
    exact List.pairwise_iff_getElem.1 hnd j i (by simp;omega) (by simp;omega) hj3 h2
   have hnew:getE l[i].key (L.map VE.en)=none:=zEF fun x hx he=>by
    obtain ⟨e,he',rfl⟩:=List.mem_map.1 hx;exact hne e he' he
   have htake:newV (l.take (i+1))=newV (l.take i)++[(l[i].key,[⟨0,l[i].val,false⟩])]:=by
    unfold newV;rw [List.take_add_one,List.getElem?_eq_getElem hi2,List.map_append];rfl
   have HT:=Lib.hid htake;clear htake hrow;generalize l[i]=r at *;obtain ⟨rk,rv⟩:=r;dsimp only at *;go_wp2_with (refine sq_ ?_;clear hO;(try clear hf);intro w9 hO hf);(refine rg_ hO ((0,0)::(0,1)::(0,2)::(1,3)::(0,4)::(1,5)::(0,6)::(1,7)::(0,8)::(4,9)::(5,10)::[]) ?_;clear hO;intro w9 hO;replace hf:=fa_ hO;(refine ss_ hO ?_;clear hO;(try clear hf);intro w9 hO hf));(refine zBt rfl ?_;intro K8 hK8;(repeat (first | go_skip | go_guarded | go_step));refine hK8 _ _ xt_ ?_;clear hK8 K8;with_reducible refine zAV hO ?_;clear hO;intro w9 hO;(replace hf:=fa_ hO));obtain ⟨g,hg9⟩:=(hO.pick (r:=Var _ [.int .i64 0,.string rv,.bool false] 239) pk_).named;rw [←hg9];rw [←hg9] at hO;clear hg9;have hO:=Own.varRow (size:=3) (n:=1) rfl (by decide) (hO.pick (r:=Var g _ _) pk_);(replace hf:=fa_ hO);(refine ss_ hO ?_;clear hO;(try clear hf);intro w9 hO hf);(refine zAE rfl ?_;intro K8 hK8;(repeat (first | go_skip | go_guarded));refine zDC hO pk_ rfl _ _ _ rfl Tryz.underlying234 Tryz.underlying9 rfl rfl (.slice (some ⟨g,0,none⟩) 1 1) rfl hnew ?_;clear hO;intro w9 hO;(replace hf:=fa_ hO);go_step;refine hK8 _ _ trivial ?_;clear hK8 K8);refine zAA ?_;go_wp2_with (refine sq_ ?_;clear hO;(try clear hf);intro w9 hO hf);refine ⟨⟨i+1,clock+1,L++[⟨rk,clock,some ⟨g,0,none⟩,1,[⟨0,rv,false⟩]⟩],by go_num,by omega,Lib.hid ⟨by rw [List.map_append,HL.out.1,HT.out];rfl,HL.out.2.add _ (fun x hx=>hne x hx) rfl⟩,?_⟩,by simp [intOf];omega⟩;have h8:=(hO.pick (r:=Rows L) pk_).pick (r:=Row2 239 3 (some ⟨g,0,none⟩) 1 1 [.int .i64 0,.string rv,.bool false]) pk_;have hm:L.map VE.en++[⟨rk,.slice (some ⟨g,0,none⟩) 1 1,clock⟩]=(L++[(⟨rk,clock,some ⟨g,0,none⟩,1,[⟨0,rv,false⟩]⟩:VE)]).map VE.en:=by rw [List.map_append];rfl
   rw [hm] at h8;have hO:=Own.inRow (L:=L++[⟨rk,clock,some ⟨g,0,none⟩,1,[⟨0,rv,false⟩]⟩]) (L':=L) (e:=⟨rk,clock,some ⟨g,0,none⟩,1,[⟨0,rv,false⟩]⟩) h8 (List.perm_append_singleton _ _);(try simp only [CA]);exact hO.cut sb_
  ·go_wp2_with (refine sq_ ?_;clear hO;(try clear hf);intro w9 hO hf);have e1:l.take i=l:=List.take_of_length_le (by omega);rw [e1] at HL;have hO:=hO.toPure (p:=L.map VE.kv=newV l∧VesOk L clock) HL.out;(go_ret;refine ⟨p,rfl,?_⟩;(try simp only [CA]);(refine Own.toEx (b9,clock,L) (Own.pack ?_);dsimp only;exact hO.give tk_ kp_))
