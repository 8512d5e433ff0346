/- Texts St3, En0, VersionsSays, St4, Sd3, Sd4, St5, St6, St7, St8, St9, St10, St11, St12, St13, St14, St15 of this claim, laid together. -/
import Derived.Test.YtagcmjmcjpjihaaGreatDoorHC34
import Derived.Test.YtagcmjmcjpjihaaGreatDoorHC29
import Derived.Test.YtagcmjmcjpjihaaGreatDoorHC32
import Derived.Test.YtagcmjmcjpjihaaGreatDoorHC7
set_option linter.unusedVariables false
set_option linter.unusedSimpArgs false
set_option maxHeartbeats 8000000
set_option maxRecDepth 100000
namespace Go.Proofs.YtagcmjmcjpjihaaGreatDoor
open Go.RowKit
theorem zQh (n:Nat) (w:World) (hn:n≤2000000000):Calls Tryz.prog 211 #[.int .i64 n] w fun e w'=>e=.returned (.string (four n))∧Ext w w':=by
 have HY:=zOe n (a:=(n:Int) % 256) (b:=(n:Int) / 256 % 256) (c:=(n:Int) / 65536 % 256) (d:=(n:Int) / 16777216) (by omega) (by omega) (by omega) (by omega);have hsz:=zAw n;generalize four n=x at *;have hO:=Own.start w (fun _=>False);go_enter Tryz.func211,Tryz.ntmps211;go_wp2_with (first|(refine zAX hO (r:=Var _ [.int .u8 ((n:Int) % 256),.int .u8 ((n:Int) / 256 % 256),.int .u8 ((n:Int) / 65536 % 256),.int .u8 ((n:Int) / 16777216)] 5) pk_ rfl (.tmp 14) 244 9 5 rfl Tryz.underlying244 Tryz.intU8k Tryz.underlying9 _ 0 4 4 [((n:Int) % 256),((n:Int) / 256 % 256),((n:Int) / 65536 % 256),((n:Int) / 16777216)] rfl rfl (fun j u hj=>Var.at (t:=5) (hO.factOf (r:=Var _ [.int .u8 ((n:Int) % 256),.int .u8 ((n:Int) / 256 % 256),.int .u8 ((n:Int) / 65536 % 256),.int .u8 ((n:Int) / 16777216)] 5) pk_) j u hj) ?_;rw [zKQ,HY];(repeat go_step))|(refine sq_ ?_;clear hO;(try clear hf);intro w9 hO hf));go_ret;exact ⟨rfl,hO.toExt⟩
def unf (s:ByteArray):Nat:=if h:4≤s.size then s[0].toNat+256*s[1].toNat+65536*s[2].toNat+16777216*s[3].toNat else 0
theorem zLQ (k a b:Nat) (ha:a<2 ^ k) (hb:2 ^ k*b+a<2 ^ 63):bits .or .i64 (a:Int) ((2 ^ k*b:Nat):Int)=((a+2 ^ k*b:Nat):Int):=by
 show IntKind.i64.wrap ((BitVec.ofInt 64 (a:Int)||| BitVec.ofInt 64 ((2 ^ k*b:Nat):Int)).toNat:Int)=_;have h1:(BitVec.ofInt 64 (a:Int)||| BitVec.ofInt 64 ((2 ^ k*b:Nat):Int)).toNat=a+2 ^ k*b:=by
  rw [BitVec.toNat_or];have e:∀n:Nat,n<2 ^ 63→(BitVec.ofInt 64 (n:Int)).toNat=n:=fun n hn=>by
   rw [BitVec.ofInt_natCast,BitVec.toNat_ofNat];omega
  rw [e a (by omega),e _ (by omega),Nat.or_comm];have:=Nat.shiftLeft_add_eq_or_of_lt ha b;rw [Nat.shiftLeft_eq,Nat.mul_comm b] at this;omega
 rw [h1];have hn:a+2 ^ k*b<2 ^ 63:=by omega
 clear h1 hb;generalize a+2 ^ k*b=n at *;simp [IntKind.wrap,IntKind.bits,IntKind.signed];omega
theorem zTo (a b c d:Nat) (ha:a<256) (hb:b<256) (hc:c<256) (hd:d<256) :
 bits .or .i64 (bits .or .i64 (bits .or .i64 (a:Int) ((b:Int)*256)) ((c:Int)*65536)) ((d:Int)*16777216)=((a+256*b+65536*c+16777216*d:Nat):Int):=by
 have h1:=zLQ 8 a b (by omega) (by omega);have h2:=zLQ 16 (a+256*b) c (by omega) (by omega);have h3:=zLQ 24 (a+256*b+65536*c) d (by omega) (by omega);rw [show (b:Int)*256=((2 ^ 8*b:Nat):Int) from by omega,h1,show (c:Int)*65536=((2 ^ 16*c:Nat):Int) from by omega,show (a+2 ^ 8*b:Nat)=a+256*b from rfl,h2,show (d:Int)*16777216=((2 ^ 24*d:Nat):Int) from by omega,show (a+256*b+2 ^ 16*c:Nat)=a+256*b+65536*c from rfl,h3]
theorem zEV (s:ByteArray) (w:World) (hs:s.size=4):Calls Tryz.prog 224 #[.string s] w fun e w'=>e=.returned (.int .i64 (unf s))∧Ext w w':=by
 have h0b:=UInt8.toNat_lt (s[0]'(by omega));have h1b:=UInt8.toNat_lt (s[1]'(by omega));have h2b:=UInt8.toNat_lt (s[2]'(by omega));have h3b:=UInt8.toNat_lt (s[3]'(by omega));have hO:=Own.start w (fun _=>False);go_enter Tryz.func224,Tryz.ntmps224;go_wp2_with (refine sq_ ?_;clear hO;(try clear hf);intro w9 hO hf);(refine rg_ hO ((0,0)::(0,1)::(3,2)::(0,3)::(0,4)::(3,5)::(0,6)::(0,7)::(0,8)::(0,9)::(3,10)::(0,11)::(0,12)::(0,13)::(0,14)::(3,15)::(0,16)::(0,17)::(0,18)::[]) ?_;clear hO;intro w9 hO;replace hf:=fa_ hO;(refine ss_ hO ?_;clear hO hf;intro w9 hO hf));refine zAA ?_;go_wp2_with (refine sq_ ?_;clear hO hf;intro w9 hO hf);rw [zTo _ _ _ _ (by omega) (by omega) (by omega) (by omega)];have HU:unf s=(s[0]'(by omega)).toNat+256*(s[1]'(by omega)).toNat+65536*(s[2]'(by omega)).toNat+16777216*(s[3]'(by omega)).toNat:=by unfold unf;rw [dif_pos (by omega)]
 rw [←HU];go_ret;exact ⟨rfl,hO.toExt⟩
structure Hd where
 ep:Nat
 si:Nat
 sz:Nat
 fi:Nat
def Hd.cells (h:Hd):List Value:=[.int .i64 h.ep,.int .i64 h.si,.int .i64 h.sz,.int .i64 h.fi]
def hB:ByteArray:=⟨#[72]⟩
def zAQ (h:Hd):ByteArray:=hB++four h.ep++four h.si++four h.sz++four h.fi
def zG4 (s:ByteArray):Hd:=⟨unf (s.extract 1 5),unf (s.extract 5 9),unf (s.extract 9 13),unf (s.extract 13 17)⟩
def zBO (s:ByteArray):Hd:=if h:0<s.size then (if s[0].toNat≠72∨1<(zG4 s).si∨2304<(zG4 s).sz∨(zG4 s).fi<1 then ⟨0,0,0,0⟩ else zG4 s) else ⟨0,0,0,0⟩
theorem zGd (h:Hd) (w:World) (h0:h.ep≤2000000000) (h1:h.si≤2000000000) (h2:h.sz≤2000000000) (h3:h.fi≤2000000000) :
 Calls Tryz.prog 146 #[.agg h.cells.toArray] w fun e w'=>e=.returned (.string (zAQ h))∧Ext w w':=by
 have HF:=fun n w (hn:n≤2000000000)=>zQh n w hn
 obtain ⟨ep,si,sz,fi⟩:=h;dsimp only at h0 h1 h2 h3;unfold zAQ Hd.cells;dsimp only;have F0:=fun w=>HF ep w h0
 have F1:=fun w=>HF si w h1
 have F2:=fun w=>HF sz w h2
 have F3:=fun w=>HF fi w h3
 have z0:=zAw ep;have z1:=zAw si;have z2:=zAw sz;have z3:=zAw fi;clear HF;generalize four ep=x0 at *;generalize four si=x1 at *;generalize four sz=x2 at *;generalize four fi=x3 at *;have hO:=Own.start w (fun _=>False);go_enter Tryz.func146,Tryz.ntmps146;go_wp2_with (refine sq_ ?_;clear hO;(try clear hf);intro w9 hO hf);obtain ⟨g,hg9⟩:=(hO.pick (r:=Var _ [.int .i64 ep,.int .i64 si,.int .i64 sz,.int .i64 fi] 223) pk_).named;rw [←hg9];rw [←hg9] at hO;clear hg9;(replace hf:=fa_ hO);(refine rg_ hO ((0,0)::(1,1)::(3,2)::(0,3)::(0,4)::(1,5)::(3,6)::(0,7)::(0,8)::(1,9)::(3,10)::(0,11)::(0,12)::(1,13)::(3,14)::(0,15)::(0,16)::[]) ?_;clear hO;intro w9 hO;replace hf:=fa_ hO;(repeat (first|(apply zAG _ rfl rfl rfl;focus (intro w8 K8 hK8;(repeat (first | go_skip | go_guarded | go_step));exact hK8))|(apply zAJ _ rfl rfl rfl;focus (intro w8 hx8 K8 hK8;have hO:=hO.ext hx8;(replace hf:=fa_ hO);skip;(repeat (first | go_skip | go_guarded | go_step));exact hK8))|(apply zAL _ rfl;(focus (intro w8 hx8 K8 hK8;have hO:=hO.ext hx8;(replace hf:=fa_ hO);(repeat (first | go_skip | go_guarded | go_step | (go_at_call 211;(with_reducible refine Calls.mono (F0 _) ?_;rintro e7 w7 ⟨rfl,hx7⟩;dsimp only))|(go_at_call 211;(with_reducible refine Calls.mono (F1 _) ?_;rintro e7 w7 ⟨rfl,hx7⟩;dsimp only))|(go_at_call 211;(with_reducible refine Calls.mono (F2 _) ?_;rintro e7 w7 ⟨rfl,hx7⟩;dsimp only))|(go_at_call 211;(with_reducible refine Calls.mono (F3 _) ?_;rintro e7 w7 ⟨rfl,hx7⟩;dsimp only))));(first | exact xt_ | exact hK8 _ xt_)));(focus (exact rfl));intro w8 hx8;replace hO:=hO.ext hx8;clear hx8;(replace hf:=fa_ hO)))));refine zAA ?_;go_wp2_with (refine sq_ ?_;clear hO hf;intro w9 hO hf);go_ret;exact ⟨rfl,hO.toExt⟩
theorem zDw (h:Hd):(zAQ h).size=17:=by
 unfold zAQ;rw [ByteArray.size_append,ByteArray.size_append,ByteArray.size_append,ByteArray.size_append,zAw,zAw,zAw,zAw];rfl
structure Dv where
 since:Nat
 C:List Ch
 R:List Sp
structure Core where
 d:Dk
 h:Hd
 R0:List Rw
 W0:List (List Ch)
 u:Nat
 nn:Nat
 frm:Nat
 V:List (ByteArray×List Vn)
 past:List (List Rw)
 kf:Nat
 keys:List (List ByteArray)
def zC0 (keys:List (List ByteArray)) (a k:Nat):List (Int×List ByteArray):=(List.range' (a+1) k).map fun n:Nat=>((n:Int),(keys[n]?).getD [])
def Core.st (c:Core):List (Int×List ByteArray):=zC0 c.keys c.kf (c.nn-c.kf)
theorem zJ3 (keys:List (List ByteArray)) (a k:Nat):(zC0 keys a k).length=k:=by unfold zC0;rw [List.length_map,List.length_range']
theorem zGn (keys:List (List ByteArray)) (s:Nat):∀(k a:Nat),a≤s→(zC0 keys a k).filter (fun d=>decide (d.1>(s:Int)))=zC0 keys s (a+k-s)
 | 0,a,h=>by
  rw [show a+0-s=0 from by omega];rfl
 | k+1,a,h=>by
  unfold zC0;rw [List.range'_succ,List.map_cons,List.filter_cons];by_cases e:a+1>s
  ·obtain rfl:a=s:=by omega
   rw [if_pos (by simp only [decide_eq_true_eq];omega),show a+(k+1)-a=k+1 from by omega,List.range'_succ,List.map_cons]
   congr 1
   refine List.filter_eq_self.2 fun d hd=>?_
   obtain ⟨n,hn,rfl⟩:=List.mem_map.1 hd;have:=(List.mem_range'_1.1 hn).1;simp only [decide_eq_true_eq];omega
  ·rw [if_neg (by simp only [decide_eq_true_eq];omega)];have ih:=zGn keys s k (a+1) (by omega);unfold zC0 at ih;rw [show a+(k+1)-s=a+1+k-s from by omega];exact ih
theorem zGF {keys:List (List ByteArray)} {a k:Nat} {d:Int×List ByteArray} (h:d∈zC0 keys a k):∃n,a<n∧n≤a+k∧d=((n:Int),(keys[n]?).getD []):=by
 obtain ⟨n,hn,rfl⟩:=List.mem_map.1 h;obtain ⟨h1,h2⟩:=List.mem_range'_1.1 hn;exact ⟨n,by omega,by omega,rfl⟩
def zBY (keys:List (List ByteArray)) (R:List Sp) (since:Nat):Bool:=(keys.drop (since+1)).all fun ks=>ks.all fun k=>!(R.any fun r=>r.has k)
theorem zRs {keys:List (List ByteArray)} {a nn since:Nat} {R:List Sp} (hk:keys.length=nn+1) (ha:a≤since) (hs:since≤nn):zCE (zC0 keys a (nn-a)) R (since:Int)=zBY keys R since:=by
 rw [Bool.eq_iff_iff];unfold zCE zBY;simp only [List.all_eq_true,Bool.not_eq_true',Bool.and_eq_false_iff,decide_eq_false_iff_not];constructor
 ·intro h ks hks k hkk;obtain ⟨i,hi,rfl⟩:=List.mem_iff_getElem.1 hks;rw [List.length_drop] at hi;rw [List.getElem_drop] at hkk;have hm:(((since+1+i:Nat):Int),keys[since+1+i])∈zC0 keys a (nn-a):=by
   refine List.mem_map.2 ⟨since+1+i,List.mem_range'_1.2 ⟨by omega,by omega⟩,?_⟩;rw [List.getElem?_eq_getElem (by omega)];rfl
  rcases h _ hm k hkk with h1 | h1
  ·exfalso;apply h1;show (((since+1+i:Nat):Int))>since;omega
  ·exact h1
 ·intro h d hd k hkk;obtain ⟨n,h1,h2,rfl⟩:=zGF hd;by_cases hn:(n:Int)>since
  ·right;have hn2:n<keys.length:=by omega
   rw [List.getElem?_eq_getElem hn2] at hkk;refine h keys[n] ?_ k hkk;rw [List.mem_drop_iff_getElem];exact ⟨n-(since+1),by omega,by congr 1;omega⟩
  ·exact .inl hn
def Core.at (c:Core) (n:Nat):List Rw:=(c.past[n]?).getD []
def zAP (n:Nat):Option (Nat×Dv)→Nat
 | none=>n
 | some x=>min n x.2.since
def zA5 (n:Nat) (D:Nat→Option (Nat×Dv)):Nat:=zAP (zAP (zAP (zAP n (D 0)) (D 1)) (D 2)) (D 3)
theorem zCy (n:Nat) (o:Option (Nat×Dv)):zAP n o≤n:=by cases o<;>simp only [zAP]<;>omega
theorem zJ5 (n:Nat) (D:Nat→Option (Nat×Dv)):zA5 n D≤n:=by
 have h0:=zCy n (D 0);have h1:=zCy (zAP n (D 0)) (D 1);have h2:=zCy (zAP (zAP n (D 0)) (D 1)) (D 2);have h3:=zCy (zAP (zAP (zAP n (D 0)) (D 1)) (D 2)) (D 3);unfold zA5;omega
theorem zGm (n:Nat) (D:Nat→Option (Nat×Dv)) {i:Nat} (hi:i<4) {x:Nat×Dv} (hx:D i=some x):zA5 n D≤x.2.since:=by
 have h1:=zCy (zAP n (D 0)) (D 1);have h2:=zCy (zAP (zAP n (D 0)) (D 1)) (D 2);have h3:=zCy (zAP (zAP (zAP n (D 0)) (D 1)) (D 2)) (D 3);unfold zA5;have e:∀n,zAP n (some x)≤x.2.since:=fun n=>by simp only [zAP];omega
 rcases (show i=0∨i=1∨i=2∨i=3 by omega) with rfl | rfl | rfl | rfl
 ·have:=e n;rw [←hx] at this;omega
 ·have:=e (zAP n (D 0));rw [←hx] at this;omega
 ·have:=e (zAP (zAP n (D 0)) (D 1));rw [←hx] at this;omega
 ·have:=e (zAP (zAP (zAP n (D 0)) (D 1)) (D 2));rw [←hx] at this;omega
def setF (D:Nat→Option (Nat×Dv)) (s:Nat) (o:Option (Nat×Dv)):Nat→Option (Nat×Dv):=fun i=>if i=s then o else D i
abbrev RV:=Option Addr×Nat×List Rw
def rv (d:RV):Value:=.slice d.1 d.2.2.length d.2.1
theorem Own.rowIm {S:Nat→Prop} {W w:World} {l l':List Rs} {e:TypeId} {size:Nat} {a:Option Addr} {n c:Nat} {xs:List Value} (h:Own S W w l) (hp:Pick l (Row2 e size a n c xs) l'):Own S W w (.imm (fun w=>ValsAt w a xs)::l'):=
 Own.toImm (r:=Row2 e size a n c xs) (φ:=fun w=>ValsAt w a xs) (fun w h=>h.1) (h.pick hp)
theorem zIo (p nn:Nat) (V:List (ByteArray×List Vn)):Reads Tryz.prog 101 #[.pointer (some ⟨p,0,none⟩)] [VerR p nn V] (.int .i64 nn):=by
 intro w L0 hO;simp only [FZ] at hO;obtain ⟨⟨b,clock,L⟩,hO⟩:=hO.frzEx;replace hO:=hO.frzMany;dsimp only at hO;simp only [FZ] at hO;(replace hf:=fa_ hO);go_enter Tryz.func101,Tryz.ntmps101;go_wp2_with (refine sq_ ?_;clear hO hf;intro w9 hO hf);go_ret;exact ⟨rfl,hO.toExt⟩
theorem zPg {S:Nat→Prop} {W w:World} {L:List Rs} {G:World→Prop} {p:Addr} {v:Value} (hO:Own S W (w.setCell p v) L) (k:∀w',Own S W w' L→G w'):G (w.setCell p v):=k _ hO
theorem zO2 (s:ByteArray) (w:World) (hs:s.size=96):Calls Tryz.prog 161 #[.string s] w fun e w'=>e=.returned (.agg (zBO s).cells.toArray)∧Ext w w':=by
 have x0:(s.extract 1 5).size=4:=by rw [ByteArray.size_extract];omega
 have x1:(s.extract 5 9).size=4:=by rw [ByteArray.size_extract];omega
 have x2:(s.extract 9 13).size=4:=by rw [ByteArray.size_extract];omega
 have x3:(s.extract 13 17).size=4:=by rw [ByteArray.size_extract];omega
 have U0:=fun w=>zEV _ w x0
 have U1:=fun w=>zEV _ w x1
 have U2:=fun w=>zEV _ w x2
 have U3:=fun w=>zEV _ w x3
 clear x0 x1 x2 x3;have h0b:=UInt8.toNat_lt (s[0]'(by omega));have HH:=Lib.hid (show zBO s=if (s[0]'(by omega)).toNat≠72∨1<unf (s.extract 5 9)∨2304<unf (s.extract 9 13)∨unf (s.extract 13 17)<1 then ⟨0,0,0,0⟩ else ⟨unf (s.extract 1 5),unf (s.extract 5 9),unf (s.extract 9 13),unf (s.extract 13 17)⟩ by unfold zBO;rw [dif_pos (by omega)];rfl);generalize unf (s.extract 1 5)=n0 at *;generalize unf (s.extract 5 9)=n1 at *;generalize unf (s.extract 9 13)=n2 at *;generalize unf (s.extract 13 17)=n3 at *;have hO:=Own.start w (fun _=>False);(replace hf:=fa_ hO);go_enter Tryz.func161,Tryz.ntmps161;go_wp2_with (refine sq_ ?_;clear hO hf;intro w9 hO hf);refine zDf (fun _=>True) (fun _ _ _ _=>trivial) trivial [0,1,3,4,6,7,9,10,12] (.pure 0 <| .pure 1 <| .pure 3 <| .pure 4 <| .pure 6 <| .pure 7 <| .pure 9 <| .pure 10 <| (.fork 2 (.fork 5 (.fork 8 (.fork 11 (.pure 12 <| .one 13 <| .one 14 .done) 13 (.one 11 (.pure 12 <| .one 14 .done))) 13 (.one 8 (.one 11 (.pure 12 <| .one 14 .done)))) 13 (.one 5 (.one 8 (.one 11 (.pure 12 <| .one 14 .done))))) 13 (.one 2 (.one 5 (.one 8 (.one 11 (.pure 12 <| .one 14 .done))))))) (by kernel_rfl) (by kernel_rfl) (fun _ _ d _ _ h=>by cases d<;>exact h) ?_;intro w9 hx9;replace hO:=hO.ext hx9;clear hx9;(replace hf:=fa_ hO)
 repeat' (first
  | refine zDd rfl rfl ?_ ?_
  | refine zAo rfl ?_
  | (refine zBV ?_
     by_cases c0:(s[0]'(by omega)).toNat=72
     ·by_cases c1:n1≤1
      ·by_cases c2:n2≤2304
       ·by_cases c3:1≤n3
        ·have HR:=Lib.hid (show zBO s=⟨n0,n1,n2,n3⟩ by rw [HH.out,if_neg (by omega)]);clear HH;go_wp2_with (refine sq_ ?_;clear hO hf;intro w9 hO hf);all_goals first|(exfalso;omega;done)|((refine zAD rfl fun K hK=>?_;simp [results,Tryz.results161,go_sem,hf];refine hK _ ⟨?_,hO.toExt⟩);rw [HR.out];rfl)
        ·have HR:=Lib.hid (show zBO s=⟨0,0,0,0⟩ by rw [HH.out,if_pos (by omega)]);clear HH;go_wp2_with (refine sq_ ?_;clear hO hf;intro w9 hO hf);all_goals first|(exfalso;omega;done)|((refine zAD rfl fun K hK=>?_;simp [results,Tryz.results161,go_sem,hf];refine hK _ ⟨?_,hO.toExt⟩);rw [HR.out];rfl)
       ·have HR:=Lib.hid (show zBO s=⟨0,0,0,0⟩ by rw [HH.out,if_pos (by omega)]);clear HH;go_wp2_with (refine sq_ ?_;clear hO hf;intro w9 hO hf);all_goals first|(exfalso;omega;done)|((refine zAD rfl fun K hK=>?_;simp [results,Tryz.results161,go_sem,hf];refine hK _ ⟨?_,hO.toExt⟩);rw [HR.out];rfl)
      ·have HR:=Lib.hid (show zBO s=⟨0,0,0,0⟩ by rw [HH.out,if_pos (by omega)]);clear HH;go_wp2_with (refine sq_ ?_;clear hO hf;intro w9 hO hf);all_goals first|(exfalso;omega;done)|((refine zAD rfl fun K hK=>?_;simp [results,Tryz.results161,go_sem,hf];refine hK _ ⟨?_,hO.toExt⟩);rw [HR.out];rfl)
     ·have HR:=Lib.hid (show zBO s=⟨0,0,0,0⟩ by rw [HH.out,if_pos (by omega)]);clear HH;go_wp2_with (refine sq_ ?_;clear hO hf;intro w9 hO hf);all_goals first|(exfalso;omega;done)|((refine zAD rfl fun K hK=>?_;simp [results,Tryz.results161,go_sem,hf];refine hK _ ⟨?_,hO.toExt⟩);rw [HR.out];rfl))
  | (apply zBB _ rfl rfl rfl;focus (intro w8 K8 hK8;(repeat (first | go_skip | go_guarded | go_step));exact hK8))
  | (intro K8 hK8;(repeat (first | go_skip | go_guarded | go_step));refine hK8 _ _ trivial ?_;clear hK8 K8;with_reducible refine zAz hO ?_;clear hO;intro w9 hO;(replace hf:=fa_ hO))
  | (intro K8 hK8;(repeat (first | go_skip | go_guarded | go_step));(go_at_call 224;(with_reducible apply Calls.mono (U0 _);rintro e7 w7 ⟨rfl,hx7⟩;replace hO:=hO.ext hx7;clear hx7;dsimp only;(replace hf:=fa_ hO)));(repeat go_step);refine hK8 _ _ trivial ?_;clear hK8 K8)
  | (intro K8 hK8;(repeat (first | go_skip | go_guarded | go_step));(go_at_call 224;(with_reducible apply Calls.mono (U1 _);rintro e7 w7 ⟨rfl,hx7⟩;replace hO:=hO.ext hx7;clear hx7;dsimp only;(replace hf:=fa_ hO)));(repeat go_step);refine hK8 _ _ trivial ?_;clear hK8 K8)
  | (intro K8 hK8;(repeat (first | go_skip | go_guarded | go_step));(go_at_call 224;(with_reducible apply Calls.mono (U2 _);rintro e7 w7 ⟨rfl,hx7⟩;replace hO:=hO.ext hx7;clear hx7;dsimp only;(replace hf:=fa_ hO)));(repeat go_step);refine hK8 _ _ trivial ?_;clear hK8 K8)
  | (intro K8 hK8;(repeat (first | go_skip | go_guarded | go_step));(go_at_call 224;(with_reducible apply Calls.mono (U3 _);rintro e7 w7 ⟨rfl,hx7⟩;replace hO:=hO.ext hx7;clear hx7;dsimp only;(replace hf:=fa_ hO)));(repeat go_step);refine hK8 _ _ trivial ?_;clear hK8 K8)
  | (intro K8 hK8;(repeat (first | go_skip | go_guarded | go_step));(apply zPg (G:=K8 _ _));(focus (exact st_ hO));clear hO;intro w9 hO;(try dsimp only [List.set] at hO);(replace hf:=fa_ hO);refine hK8 _ _ trivial ?_;clear hK8 K8))
def rowT (r:Rw):ByteArray:=(⟨#[UInt8.ofNat r.key.size,UInt8.ofNat r.val.size]⟩:ByteArray)++r.key++r.val
def allT:List Rw→ByteArray
 | []=>⟨#[]⟩
 | r::l=>rowT r++allT l
theorem zFC (r:Rw):(rowT r).size=2+r.key.size+r.val.size:=by
 unfold rowT;rw [ByteArray.size_append,ByteArray.size_append];rfl
structure SRows (R:List Rw):Prop where
 ups:RUps R
 len:R.length≤40
 key:∀r∈R,KeyOk r.key
 val:∀r∈R,r.val.size≤40
theorem zE0:∀{R:List Rw},(∀r∈R,KeyOk r.key)→(∀r∈R,r.val.size≤40)→(allT R).size≤57*R.length
 | [],_,_=>Nat.zero_le _
 | r::l,h1,h2=>by
  have ih:=zE0 (R:=l) (fun x hx=>h1 x (List.mem_cons_of_mem _ hx)) (fun x hx=>h2 x (List.mem_cons_of_mem _ hx));have a:=zBQ (h1 r (List.mem_cons_self ..));have b:=h2 r (List.mem_cons_self ..);rw [allT,ByteArray.size_append,zFC,List.length_cons];omega
theorem SRows.size {R:List Rw} (h:SRows R):(allT R).size≤2280:=by
 have:=zE0 h.key h.val;have:=h.len;omega
def catB (B:List ByteArray) (p:Nat):Nat→ByteArray
 | 0=>⟨#[]⟩
 | n+1=>catB B p n++(B[p+n]?).getD ⟨#[]⟩
theorem zG7 {B:List ByteArray} {p:Nat}:∀{n:Nat},(∀i,i<n→∃s,B[p+i]?=some s∧s.size=96)→
 (catB B p n).size=96*n∧∀j s,j<96*n→B[p+j / 96]?=some s→(catB B p n).data.toList[j]?=s.data.toList[j % 96]?
 | 0,_=>⟨rfl,fun j s hj _=>by omega⟩
 | n+1,h=>by
  obtain ⟨h1,h2⟩:=zG7 (n:=n) fun i hi=>h i (by omega)
  obtain ⟨x,hx,hx2⟩:=h n (by omega);have e:catB B p (n+1)=catB B p n++x:=by rw [catB,hx];rfl
  rw [e];refine ⟨by rw [ByteArray.size_append,h1,hx2];omega,fun j s hj hs=>?_⟩;rw [zAB];have hl:(catB B p n).data.toList.length=96*n:=by rw [←h1];simp
  by_cases hlt:j<96*n
  ·rw [List.getElem?_append_left (by omega)];exact h2 j s hlt hs
  ·rw [List.getElem?_append_right (by omega),hl];have hd:j / 96=n:=by omega
   rw [hd,hx] at hs;injection hs with hs
   rw [←hs,show j-96*n=j % 96 from by omega]
def cws (p:Nat) (t:ByteArray) (m:Nat):List (Nat×ByteArray):=(List.range m).map fun i=>(p+i,t.extract (96*i) (96*i+96))
theorem zHo (p:Nat) (t:ByteArray) (m:Nat):cws p t (m+1)=cws p t m++[(p+m,t.extract (96*m) (96*m+96))]:=by
 unfold cws;rw [List.range_succ,List.map_append];rfl
theorem zOH {p:Nat} {t:ByteArray} {m q:Nat} {s:ByteArray} (h:(q,s)∈cws p t m):∃i,i<m∧q=p+i∧s=t.extract (96*i) (96*i+96):=by
 unfold cws at h;obtain ⟨i,hi,e⟩:=List.mem_map.1 h;injection e with e1 e2
 exact ⟨i,List.mem_range.1 hi,e1.symm,e2.symm⟩
theorem zLk {p:Nat} {t:ByteArray} {m:Nat}:∀x∈cws p t m,x.2.size≤96:=by
 rintro ⟨q,s⟩ h;obtain ⟨i,hi,rfl,rfl⟩:=zOH h;dsimp only;rw [ByteArray.size_extract];omega
theorem zLm {p:Nat} {t:ByteArray} {B:List ByteArray}:∀{m:Nat},p+m≤B.length→∀j,(zAt B (cws p t m))[j]?=if p≤j∧j<p+m then some (zAK (t.extract (96*(j-p)) (96*(j-p)+96))) else B[j]?
 | 0,h,j=>by
  rw [if_neg (by omega)];rfl
 | m+1,h,j=>by
  rw [zHo,zGR];show ((zAt B (cws p t m)).set (p+m) (zAK (t.extract (96*m) (96*m+96))))[j]?=_;by_cases hj:p+m=j
  ·rw [hj,List.getElem?_set_self (by rw [zBZ];omega),if_pos (by omega),show j-p=m from by omega]
  ·rw [List.getElem?_set_ne hj,zLm (by omega)];by_cases h2:p≤j∧j<p+m
   ·rw [if_pos h2,if_pos (by omega)]
   ·rw [if_neg h2,if_neg (by omega)]
theorem zRC {B:List ByteArray} {p n:Nat} {t:ByteArray} (hB:∀i,i<n→∃s,B[p+i]?=some s∧s.size=96) (ht:t.size≤96*n)
 (h:∀i,96*i<t.size→B[p+i]?=some (zAK (t.extract (96*i) (96*i+96)))):(catB B p n).extract 0 t.size=t:=by
 obtain ⟨h1,h2⟩:=zG7 hB;refine zAS ?_;rw [ByteArray.data_extract,Array.toList_extract,List.extract_eq_take_drop,Nat.sub_zero,List.drop_zero];have hl:t.data.toList.length=t.size:=by simp
 apply List.ext_getElem?;intro j;rw [List.getElem?_take];by_cases hj:j<t.size
 ·rw [if_pos hj,h2 j _ (by omega) (h (j / 96) (by omega))];unfold zAK;have hs:(t.extract (96*(j / 96)) (96*(j / 96)+96)).data.toList=(t.data.toList.drop (96*(j / 96))).take 96:=by
   rw [ByteArray.data_extract,Array.toList_extract,List.extract_eq_take_drop]
   congr 1;omega
  rw [zAB,hs,List.getElem?_append_left (by rw [List.length_take,List.length_drop];omega),List.getElem?_take,if_pos (by omega),List.getElem?_drop]
  congr 1;omega
 ·rw [if_neg hj,List.getElem?_eq_none (by omega)]
theorem zFz (n:Nat) (hn:n<4294967296):unf (four n)=n:=by
 unfold unf;rw [dif_pos (show 4≤(four n).size from Nat.le_refl _)];show (UInt8.ofNat n).toNat+256*(UInt8.ofNat (n / 256)).toNat+65536*(UInt8.ofNat (n / 65536)).toNat+16777216*(UInt8.ofNat (n / 16777216)).toNat=n;rw [UInt8.toNat_ofNat',UInt8.toNat_ofNat',UInt8.toNat_ofNat',UInt8.toNat_ofNat'];omega
theorem zQz (h:Hd):(zAK (zAQ h)).data.toList=72::((four h.ep).data.toList++((four h.si).data.toList++((four h.sz).data.toList++((four h.fi).data.toList++(zAn 79).data.toList)))):=by
 unfold zAK;rw [zDw];unfold zAQ;rw [zAB,zAB,zAB,zAB,zAB];simp only [List.append_assoc];rfl
theorem zJT {h:Hd} (h0:h.ep<4294967296) (h1:h.si≤1) (h2:h.sz≤2304) (h3:1≤h.fi) (h4:h.fi<4294967296):zBO (zAK (zAQ h))=h:=by
 have hl:=zQz h;have hsz:=zB2 (zAQ h) (by rw [zDw];omega);generalize zAK (zAQ h)=f at *;have g0:f[0]'(by omega)=72:=by rw [zDx];simp only [hl];rfl
 have x:∀a b n,f.data.toList.drop a=(four n).data.toList++b→f.extract a (a+4)=four n:=fun a b n e=>zAS (by
  rw [ByteArray.data_extract,Array.toList_extract,List.extract_eq_take_drop,e,show a+4-a=(four n).data.toList.length from by rw [Nat.add_sub_cancel_left];rfl,List.take_left])
 have hU:zG4 f=h:=by
  unfold zG4;rw [x 1 _ h.ep (by rw [hl];rfl),x 5 _ h.si (by rw [hl];rfl),x 9 _ h.sz (by rw [hl];rfl),x 13 _ h.fi (by rw [hl];rfl),zFz _ h0,zFz _ (by omega),zFz _ (by omega),zFz _ h4]
 unfold zBO;rw [dif_pos (by omega),hU,g0,if_neg];intro h;rcases h with h | h | h | h
 ·exact h rfl
 all_goals omega
theorem zNz:(zBO (zAn 96)).ep=0:=by
 unfold zBO;split
 ·rw [if_pos];left;intro h;rw [zDx] at h;simp only [zIi] at h;cases h
 ·rfl
def zAF (R:List Rw) (W:List (List Ch)):List Rw:=W.foldl (fun R C=>C.foldl appR R) R
theorem zEK (R:List Rw) (W:List (List Ch)) (C:List Ch):zAF R (W++[C])=C.foldl appR (zAF R W):=by unfold zAF;rw [List.foldl_append];rfl
theorem zE9 {B K:List ByteArray} {p:Nat}:∀{n:Nat},(∀j,p≤j→j<p+n→K[j]?=B[j]?)→catB K p n=catB B p n
 | 0,_=>rfl
 | n+1,h=>by rw [catB,catB,zE9 fun j h1 h2=>h j h1 (by omega),h (p+n) (by omega) (by omega)]
structure StB (k:Nat) (B:List ByteArray) (h:Hd) (R0:List Rw) (W:List (List Ch)) (u:Nat):Prop where
 k1:54≤k
 k2:k≤200
 len:B.length=k
 full:∀s∈B,s.size=96
 head:B[h.ep % 2]?=some (zAK (zAQ h))
 other:∃s,B[1-h.ep % 2]?=some s∧(zBO s).ep<h.ep
 e1:1≤h.ep
 e2:h.ep≤5000
 s1:h.si≤1
 f1:1≤h.fi
 f2:h.fi≤200*h.ep
 sz:h.sz=(allT R0).size
 base:(catB B (2+24*h.si) 24).extract 0 h.sz=allT R0
 rows:SRows R0
 now:SRows (zAF R0 W)
 sc:scan h.fi 0 (secs B 50 (k-50)) [] [] 0=(W,u)
 old:OldB B 50 (k-50) h.fi
theorem StB.used {k:Nat} {B:List ByteArray} {h:Hd} {R0:List Rw} {W:List (List Ch)} {u:Nat} (s:StB k B h R0 W u):u≤k-50:=by
 have:=(zGf s.sc rfl).1;rw [zDF (by rw [s.len];have:=s.k1;omega)] at this;exact this
theorem StB.fb {k:Nat} {B:List ByteArray} {h:Hd} {R0:List Rw} {W:List (List Ch)} {u:Nat} (s:StB k B h R0 W u):h.fi+(k-50)≤16777216:=by
 have:=s.f2;have:=s.e2;have:=s.k2;omega
theorem StB.mixAdd {k:Nat} {B K:List ByteArray} {h:Hd} {R0:List Rw} {W:List (List Ch)} {u:Nat} {l:List Ch} (s:StB k B h R0 W u) (hl:∀c∈l,ChOk c) (hf:FreeB B 50 (k-50) h.fi u)
 (hm:Mix B K (lws 50 (k-50) h.fi u l)) (hK:K.length=B.length) (hK2:∀s∈K,s.size=96):StB k K h R0 W u:=by
 have hlow:∀j,j<50→K[j]?=B[j]?:=fun j hj=>by
  rcases hm j with e | ⟨t,ht,_⟩
  ·exact e
  ·rcases zFU ht with ⟨k',c,e1,e2,e3⟩ | ⟨e1,e2,e3⟩<;>omega
 have k1:=s.k1;have s1:=s.s1;exact ⟨s.k1,s.k2,hK.trans s.len,hK2,by rw [hlow _ (by omega)];exact s.head,by rw [hlow _ (by omega)];exact s.other,s.e1,s.e2,s.s1,s.f1,s.f2,s.sz,by rw [zE9 fun j h1 h2=>hlow j (by omega)];exact s.base,s.rows,s.now,
  zQQ hl s.f1 s.fb s.sc hf (by rw [s.len];omega) hK hm,s.old.mix s.f1 hm s.fb⟩
theorem StB.added {k:Nat} {B:List ByteArray} {h:Hd} {R0:List Rw} {W:List (List Ch)} {u:Nat} {l:List Ch} (s:StB k B h R0 W u) (hl:∀c∈l,ChOk c) (hu:u+l.length+1≤k-50) (hn:SRows (l.foldl appR (zAF R0 W))) :
 StB k (added B 50 (k-50) h.fi u l) h R0 (W++[l]) (u+l.length+1):=by
 have k1:=s.k1;have s1:=s.s1;have hlen:50+(k-50)≤B.length:=by rw [s.len];omega
 have hlow:∀j,j<50→(Go.Proofs.YtagcmjmcjpjihaaGreatDoor.added B 50 (k-50) h.fi u l)[j]?=B[j]?:=fun j hj=>by rw [zGJ hu hlen,if_pos (by omega)]
 exact ⟨s.k1,s.k2,(zGX ..).trans s.len,zQ9 s.full hl hu,by rw [hlow _ (by omega)];exact s.head,by rw [hlow _ (by omega)];exact s.other,s.e1,s.e2,s.s1,s.f1,s.f2,s.sz,by rw [zE9 fun j h1 h2=>hlow j (by omega)];exact s.base,s.rows,by rw [zEK];exact hn,
  zOw hl s.f1 s.fb hu hlen s.sc,s.old.added s.f1 s.fb⟩
def ckM (R:List Rw):Nat:=((allT R).size+95) / 96
theorem zIg {R:List Rw} (h:SRows R):ckM R≤24:=by have:=h.size;unfold ckM;omega
def ckW (h:Hd) (R:List Rw):List (Nat×ByteArray):=cws (2+24*(1-h.si)) (allT R) (ckM R)
def ckH (k:Nat) (h:Hd) (R:List Rw):Hd:=⟨h.ep+1,1-h.si,(allT R).size,h.fi+(k-50)⟩
theorem zOA {h:Hd} {R:List Rw} (hR:SRows R) {q:Nat} {s:ByteArray} (hq:(q,s)∈ckW h R):2+24*(1-h.si)≤q∧q<2+24*(1-h.si)+24:=by
 obtain ⟨i,hi,rfl,_⟩:=zOH hq;have:=zIg hR;omega
theorem StB.mixCk {k:Nat} {B K:List ByteArray} {h:Hd} {R0 R:List Rw} {W:List (List Ch)} {u:Nat} (s:StB k B h R0 W u) (hR:SRows R) (hm:Mix B K (ckW h R)) (hK:K.length=B.length) (hK2:∀s∈K,s.size=96) :
 StB k K h R0 W u∧(FreeB B 50 (k-50) h.fi u→FreeB K 50 (k-50) h.fi u):=by
 have s1:=s.s1;have hsame:∀j,¬(2+24*(1-h.si)≤j∧j<2+24*(1-h.si)+24)→K[j]?=B[j]?:=fun j hj=>by
  rcases hm j with e | ⟨t,ht,_⟩
  ·exact e
  ·exact absurd (zOA hR ht) hj
 have hsec:secs K 50 (k-50)=secs B 50 (k-50):=by
  apply List.ext_getElem?;intro j;rw [zCf,zCf,hsame _ (by omega)]
 refine ⟨⟨s.k1,s.k2,hK.trans s.len,hK2,by rw [hsame _ (by omega)];exact s.head,by rw [hsame _ (by omega)];exact s.other,s.e1,s.e2,s.s1,s.f1,s.f2,s.sz,by rw [zE9 fun j h1 h2=>hsame j (by omega)];exact s.base,s.rows,s.now,
  by rw [hsec];exact s.sc,fun j x hj hs=>s.old j x hj (by rw [←hsame _ (by omega)];exact hs)⟩,fun hf j x h1 hj hs=>hf j x h1 hj (by rw [←hsame _ (by omega)];exact hs)⟩
theorem StB.ck {k:Nat} {B:List ByteArray} {h:Hd} {R0:List Rw} {W:List (List Ch)} {u:Nat} (s:StB k B h R0 W u) (he:h.ep+1≤5000) :
 StB k (putB B (ckW h (zAF R0 W)) ((h.ep+1) % 2) (zAQ (ckH k h (zAF R0 W)))) (ckH k h (zAF R0 W)) (zAF R0 W) [] 0∧
  FreeB (putB B (ckW h (zAF R0 W)) ((h.ep+1) % 2) (zAQ (ckH k h (zAF R0 W)))) 50 (k-50) (ckH k h (zAF R0 W)).fi 0:=by
 have hR:=s.now;generalize zAF R0 W=R at *;have hsz:=hR.size;have hM:=zIg hR;have k1:=s.k1;have k2:=s.k2;have s1:=s.s1;have e1:=s.e1;have e2:=s.e2;have f1:=s.f1;have f2:=s.f2;have hlen:=s.len;have hH:(zAQ (ckH k h R)).size≤96:=by rw [zDw];omega
 have hg:∀j,(putB B (ckW h R) ((h.ep+1) % 2) (zAQ (ckH k h R)))[j]?=if j=(h.ep+1) % 2 then some (zAK (zAQ (ckH k h R))) else if 2+24*(1-h.si)≤j∧j<2+24*(1-h.si)+ckM R then some (zAK ((allT R).extract (96*(j-(2+24*(1-h.si)))) (96*(j-(2+24*(1-h.si)))+96))) else B[j]?:=fun j=>by
  unfold putB ckW;by_cases hj:(h.ep+1) % 2=j
  ·rw [hj,List.getElem?_set_self (by rw [zBZ];omega),if_pos rfl]
  ·rw [List.getElem?_set_ne hj,if_neg (fun e=>hj e.symm),zLm (by omega)]
 have hLn:(putB B (ckW h R) ((h.ep+1) % 2) (zAQ (ckH k h R))).length=k:=(zNS ..).trans hlen;have hF:∀s∈putB B (ckW h R) ((h.ep+1) % 2) (zAQ (ckH k h R)),s.size=96:=zSu s.full zLk hH;generalize putB B (ckW h R) ((h.ep+1) % 2) (zAQ (ckH k h R))=K at *;have hlog:∀j,K[50+j]?=B[50+j]?:=fun j=>by rw [hg,if_neg (by omega),if_neg (by omega)]
 have hold:OldB K 50 (k-50) h.fi:=fun j x hj hs=>s.old j x hj (by rw [←hlog];exact hs)
 obtain ⟨n1,n2⟩:=hold.new (f2:=h.fi+(k-50)) (Nat.le_refl _) (by omega);have hfi:(ckH k h R).fi=h.fi+(k-50):=rfl;refine ⟨⟨s.k1,s.k2,hLn,hF,?_,⟨zAK (zAQ h),?_,?_⟩,?_,?_,?_,?_,?_,rfl,?_,hR,hR,?_,n2⟩,n1⟩
 ·rw [hg,if_pos (show (ckH k h R).ep % 2=(h.ep+1) % 2 from rfl)]
 ·have hp:1-(ckH k h R).ep % 2=h.ep % 2:=by show 1-(h.ep+1) % 2=_;omega
  rw [hp,hg,if_neg (by omega),if_neg (by omega)];exact s.head
 ·rw [zJT (by omega) s1 (by rw [s.sz];have:=s.rows.size;omega) f1 (by omega)];show h.ep<h.ep+1;omega
 ·show 1≤h.ep+1;omega
 ·exact he
 ·show 1-h.si≤1;omega
 ·show 1≤h.fi+(k-50);omega
 ·show h.fi+(k-50)≤200*(h.ep+1);omega
 ·show (catB K (2+24*(1-h.si)) 24).extract 0 (allT R).size=allT R;refine zRC (fun i hi=>?_) (by omega) fun i hi=>?_
  ·have hb:2+24*(1-h.si)+i<K.length:=by omega
   exact ⟨_,List.getElem?_eq_getElem hb,hF _ (List.getElem_mem hb)⟩
  ·have:i<ckM R:=by unfold ckM;omega
   rw [hg,if_neg (by omega),if_pos (by omega),Nat.add_sub_cancel_left]
 ·exact n1.scan (by omega) (by omega)
def newB (k:Nat):List ByteArray:=(List.replicate k (zAn 96)).set 1 (zAK (zAQ ⟨1,0,0,1⟩))
theorem StB.new {k:Nat} (k1:54≤k) (k2:k≤200):StB k (newB k) ⟨1,0,0,1⟩ [] [] 0∧FreeB (newB k) 50 (k-50) 1 0:=by
 have hg:∀j,1<j→(newB k)[j]?=(List.replicate k (zAn 96))[j]?:=fun j hj=>by unfold newB;rw [List.getElem?_set_ne (by omega)]
 have hl:(newB k).length=k:=by unfold newB;rw [List.length_set,List.length_replicate]
 obtain ⟨z1,z2⟩:=zPR (frm:=50) (many:=k-50) (first:=1) (k:=k) (Nat.le_refl _) (by omega);have n1:FreeB (newB k) 50 (k-50) 1 0:=fun j s h1 hj hs=>z1 j s h1 hj (by rw [←hg _ (by omega)];exact hs)
 have n2:OldB (newB k) 50 (k-50) 1:=fun j s hj hs=>z2 j s hj (by rw [←hg _ (by omega)];exact hs)
 have hr:SRows []:=⟨.nil,Nat.zero_le _,fun _ h=>(List.not_mem_nil h).elim,fun _ h=>(List.not_mem_nil h).elim⟩
 refine ⟨⟨k1,k2,hl,?_,?_,⟨zAn 96,?_,?_⟩,Nat.le_refl _,by decide,by decide,Nat.le_refl _,by decide,rfl,?_,hr,hr,n1.scan (by omega) (by omega),n2⟩,n1⟩
 ·unfold newB;exact zGN (fun s hs=>by rw [(List.mem_replicate.1 hs).2];rfl) (zB2 _ (by rw [zDw];omega))
 ·show (newB k)[1]?=_;unfold newB;rw [List.getElem?_set_self (by rw [List.length_replicate];omega)]
 ·show (newB k)[0]?=_;unfold newB;rw [List.getElem?_set_ne (by omega),List.getElem?_replicate,if_pos (by omega)]
 ·rw [zNz];decide
 ·show (catB _ _ _).extract 0 0=⟨#[]⟩
  exact zAS (by rw [ByteArray.data_extract,Array.toList_extract,List.extract_eq_take_drop];rfl)
def zD (k:Nat) (ws:List (Nat×ByteArray)):Dk:=⟨List.replicate k (zAn 96),List.replicate k (zAn 96),ws,-1,false⟩
theorem zTX (k:Nat):Dk.new k=zD k []:=rfl
theorem zLN {k n:Nat} {ws:List (Nat×ByteArray)} (hn:n<k):(zD k ws).writeR n ⟨#[]⟩=(0,zD k (ws++[(n,zAn 96)])):=by
 rcases zFb (d:=zD k ws) (n:=n) (s:=⟨#[]⟩) rfl (by show n<(List.replicate k _).length;rw [List.length_replicate];exact hn) (by decide) with ⟨h,_⟩ | ⟨f,h,hf⟩
 ·exact absurd rfl h
 ·rw [h,hf rfl,zED];unfold zD;rw [show (List.replicate k (zAn 96)).set n (zAn 96)=List.replicate k (zAn 96) from by
   apply List.ext_getElem?;intro j;rw [List.getElem?_set];split
   ·rename_i e;subst e;simp [hn]
   ·rfl]
theorem zSM {k:Nat} {ws:List (Nat×ByteArray)}:(zD k ws).flush=(0,zD k []):=by
 rcases zFv (d:=zD k ws) rfl with ⟨h,_⟩ | ⟨f,h,hf⟩
 ·exact absurd rfl h
 ·rw [h,hf rfl];rfl
theorem zSs {k:Nat} (hk:1<k):(zD k []).writeR ((1:Nat):Int) (zAQ ⟨1,0,0,1⟩)=(0,⟨List.replicate k (zAn 96),newB k,[(1,zAK (zAQ ⟨1,0,0,1⟩))],-1,false⟩):=by
 rcases zFb (d:=zD k []) (n:=1) (s:=zAQ ⟨1,0,0,1⟩) rfl (by show 1<(List.replicate k _).length;rw [List.length_replicate];exact hk) (by rw [zDw];omega) with ⟨h,_⟩ | ⟨f,h,hf⟩
 ·exact absurd rfl h
 ·rw [h,hf rfl];rfl
theorem zQy {k:Nat} {a:List ByteArray} {ws:List (Nat×ByteArray)}:(⟨a,newB k,ws,-1,false⟩:Dk).flush=(0,⟨newB k,newB k,[],-1,false⟩):=by
 rcases zFv (d:=⟨a,newB k,ws,-1,false⟩) rfl with ⟨h,_⟩ | ⟨f,h,hf⟩
 ·exact absurd rfl h
 ·rw [h,hf rfl]
theorem zHS (k:Nat):(newB k).length=k:=by unfold newB;rw [List.length_set,List.length_replicate]
theorem zNa (p k:Nat) (hk:54≤k) (hk2:k≤200):Does Tryz.prog 66 #[.pointer (some ⟨p,0,none⟩)] [zAC p (zD k [])] (fun _:Unit=>(.nilIface,[zAC p ⟨newB k,newB k,[],-1,false⟩])):=by
 have HS:=fun ws=>zBE p (zD k ws)
 have hkl:∀ws,(zD k ws).now.length=k:=fun ws=>by show (List.replicate k _).length=k;simp
 simp only [hkl] at HS;have HW0:=zCH p (zD k []) 0 ⟨#[]⟩ (show (-1:Int)≤-1 from Int.le_refl _) (show (-1:Int)≤9223372036854775807 by decide) (Nat.zero_le _);rw [show (0:Int)=((0:Nat):Int) from rfl,zLN (by omega)] at HW0;have HW:=fun n ws (hn:n<k) (hl:ws.length≤1000)=>zCH p (zD k ws) (n:Nat) ⟨#[]⟩ (show (-1:Int)≤-1 from Int.le_refl _) (show (-1:Int)≤9223372036854775807 by decide) (by show ws.length≤1000000;omega)
 have HF:=fun ws=>zC7 p (zD k ws) (show (-1:Int)≤-1 from Int.le_refl _) (show (-1:Int)≤9223372036854775807 by decide) (by rw [hkl];omega) rfl
 have HH:=zCH p (zD k []) ((1:Nat):Int) (zAQ ⟨1,0,0,1⟩) (show (-1:Int)≤-1 from Int.le_refl _) (show (-1:Int)≤9223372036854775807 by decide) (Nat.zero_le _);rw [zSs (by omega)] at HH;have HF2:=zC7 p ⟨List.replicate k (zAn 96),newB k,[(1,zAK (zAQ ⟨1,0,0,1⟩))],-1,false⟩ (show (-1:Int)≤-1 from Int.le_refl _) (show (-1:Int)≤9223372036854775807 by decide) (by show 0<(newB k).length;rw [zHS];omega) (by show (List.replicate k _).length=(newB k).length;rw [zHS];simp);rw [zQy] at HF2;have HT:=fun w=>zGd ⟨1,0,0,1⟩ w (by decide) (by decide) (by decide) (by decide)
 unfold Hd.cells at HT;rw [show errV 0=.nilIface from rfl] at HW0 HH HF2;simp only [zSM,show errV 0=.nilIface from rfl] at HF;generalize zAQ ⟨1,0,0,1⟩=ht at *;intro S W w L0 hO;simp only [CA] at hO;go_enter Tryz.func66,Tryz.ntmps66;go_wp2_with (first|(go_at_call 143;(with_reducible refine Reads.use hO (HS []) tk_ (ru_ ?_);clear hO;(try clear hf);intro w9 hO hf))|(go_at_call 144;(with_reducible refine Does.use hO (HW0) tk_ (du_ ?_);clear hO;(try clear hf);intro x9 w9 hO hf))|(refine sq_ ?_;clear hO;(try clear hf);intro w9 hO hf));have hO9:=hO;clear hO hf;go_loopw [3,4] (fun v3 v4 wr=>∃(i:Nat) (ws:List (Nat×ByteArray)),v3=.nilIface∧v4=.int .i64 i∧i≤k∧ws.length≤i+1∧Own S W wr ([zAC p (zD k ws)]++L0)) (fun _ v4 _=>k-(intOf v4).toNat)
 case atStart=>exact ⟨50,[(0,zAn 96)],rfl,rfl,by omega,by simp,by (try simp only [CA]);exact hO9.cut sb_⟩
 case round=>
  clear hO9;obtain ⟨i,ws,rfl,rfl,hi,hws,hO⟩:=hrel;rename World=>w1
  simp only [List.cons_append,List.nil_append] at hO;have HWi:=HW i ws;by_cases hlt:i<k
  ·have HWi:=HWi hlt (by omega);rw [zLN hlt,show errV 0=.nilIface from rfl] at HWi;go_wp2_with (first|(go_at_call 143;(with_reducible refine Reads.use hO (HS ws) tk_ (ru_ ?_);clear hO;(try clear hf);intro w9 hO hf))|(go_at_call 144;(with_reducible refine Does.use hO (HWi) tk_ (du_ ?_);clear hO;(try clear hf);intro x9 w9 hO hf))|(refine sq_ ?_;clear hO;(try clear hf);intro w9 hO hf));refine ⟨⟨i+1,ws++[(i,zAn 96)],rfl,by go_num,by omega,by rw [List.length_append,List.length_singleton];omega,?_⟩,by simp [intOf];omega⟩;(try simp only [CA]);exact hO.cut sb_
  ·go_wp2_with (first|(go_at_call 143;(with_reducible refine Reads.use hO (HS ws) tk_ (ru_ ?_);clear hO;(try clear hf);intro w9 hO hf))|(go_at_call 144;(with_reducible refine Does.use hO (HH) tk_ (du_ ?_);clear hO;(try clear hf);intro x9 w9 hO hf))|(go_at_call 145;(with_reducible apply Does.use hO (HF ws);exact tk_;refine du_ ?_;clear hO;(try clear hf);intro x9 w9 hO hf))|(go_at_call 145;(with_reducible apply Does.use hO (HF2);exact tk_;refine du_ ?_;clear hO;(try clear hf);intro x9 w9 hO hf))|(go_at_call 146;(with_reducible refine Own.quiet hO (HT _) (ru_ ?_);clear hO;(try clear hf);intro w9 hO hf))|(refine sq_ ?_;clear hO;(try clear hf);intro w9 hO hf));go_ret;refine ⟨(),rfl,?_⟩;dsimp only;(try simp only [CA]);exact hO.cut sb_
theorem zRI {l:List Rw} {r:Rw} (h:RUps (l++[r])):appR l ⟨r.key,r.val,false⟩=l++[r]:=by
 have hl:RUps l:=(List.pairwise_append.1 h).1;have hr:∀x∈l,slt x.key r.key=true:=fun x hx=>(List.pairwise_append.1 h).2.2 x hx r (List.mem_singleton_self _)
 refine RUps.ext (zBC hl) h fun x=>?_
 unfold appR;rw [zAi,List.mem_append,List.mem_singleton];constructor
 ·rintro (⟨h1,_⟩ | ⟨_,h1⟩)
  ·exact .inl h1
  ·exact .inr h1
 ·rintro (h1 | h1)
  ·exact .inl ⟨h1,zBr (hr x h1)⟩
  ·exact .inr ⟨rfl,h1⟩
theorem zSW {r:Rw} {l:List Rw} (hk:r.key.size≤15) (hv:r.val.size≤40) :
 (allT (r::l)).size=2+r.key.size+r.val.size+(allT l).size∧(∀h:0<(allT (r::l)).size,(allT (r::l))[0].toNat=r.key.size)∧(∀h:1<(allT (r::l)).size,(allT (r::l))[1].toNat=r.val.size)∧
  (allT (r::l)).extract 2 (2+r.key.size)=r.key∧(allT (r::l)).extract (2+r.key.size) (2+r.key.size+r.val.size)=r.val∧(allT (r::l)).extract (2+r.key.size+r.val.size) (2+r.key.size+r.val.size+(allT l).size)=allT l:=by
 have hsz:(allT (r::l)).size=2+r.key.size+r.val.size+(allT l).size:=by rw [allT,ByteArray.size_append,zFC]
 have hl:(allT (r::l)).data.toList=UInt8.ofNat r.key.size::UInt8.ofNat r.val.size::(r.key.data.toList++(r.val.data.toList++(allT l).data.toList)):=by
  rw [allT,zAB];unfold rowT;rw [zAB,zAB];simp only [List.append_assoc];rfl
 have k1:r.key.data.toList.length=r.key.size:=by simp
 have k2:r.val.data.toList.length=r.val.size:=by simp
 have k3:(allT l).data.toList.length=(allT l).size:=by simp
 generalize allT (r::l)=t at *;refine ⟨hsz,fun h=>?_,fun h=>?_,zAS ?_,zAS ?_,zAS ?_⟩
 ·rw [zDx];simp only [hl];show (UInt8.ofNat _).toNat=_;rw [UInt8.toNat_ofNat'];omega
 ·rw [zDx];simp only [hl];show (UInt8.ofNat _).toNat=_;rw [UInt8.toNat_ofNat'];omega
 ·rw [ByteArray.data_extract,Array.toList_extract,List.extract_eq_take_drop,hl];show (r.key.data.toList++_).take _=_;rw [show 2+r.key.size-2=r.key.data.toList.length from by omega,List.take_left]
 ·rw [ByteArray.data_extract,Array.toList_extract,List.extract_eq_take_drop,hl];rw [show 2+r.key.size=r.key.data.toList.length+1+1 from by omega,List.drop_succ_cons,List.drop_succ_cons,List.drop_left,show r.key.data.toList.length+1+1+r.val.size-(r.key.data.toList.length+1+1)=r.val.data.toList.length from by omega,List.take_left]
 ·rw [ByteArray.data_extract,Array.toList_extract,List.extract_eq_take_drop,hl];rw [show 2+r.key.size+r.val.size=(r.key.data.toList++r.val.data.toList).length+1+1 from by rw [List.length_append];omega,List.drop_succ_cons,List.drop_succ_cons,←List.append_assoc,List.drop_left,List.take_of_length_le (by omega)]
theorem zOn (R:List Rw) (hR:SRows R) :
 Does Tryz.prog 162 #[.string (allT R)] [.imm LibOk] (fun b:Nat=>(.tuple #[.map (some b),.bool true],[.imm LibOk,StM b R])):=by
 have HR:=Lib.hid hR;have hRl:=hR.len;have hTs:=hR.size;clear hR;intro S W w L0 hO;simp only [CA] at hO
 ((try clear hf);have hf:=fa_ hO)
 go_enter Tryz.func162,Tryz.ntmps162;go_wp2_with (first|((with_reducible show wpList _ _ _ (Oper.mk _ (.makeMap _ _) _ _ _ _::_) _ _);(refine zFG hO rfl rfl ?_;clear hO;intro b9 w9 hO;((try clear hf);have hf:=fa_ hO)))|((refine sy_ hO ?_);clear hO;intro w9 hO;(try dsimp only [List.set] at hO);((try clear hf);have hf:=fa_ hO)));have hO9:=hO;clear hO hf;go_loopw [0] (fun v wr=>∃(i c:Nat) (L:List SE),v=.string (allT (R.drop i))∧i≤R.length∧Hid (SesOk L c (R.take i))∧Own S W wr ([MapR b9 (L.map SE.en) c,.imm LibOk]++L0)) (fun v _=>match v with | .string s=>s.size | _=>0)
 case atStart=>exact ⟨0,0,[],rfl,by omega,Lib.hid SesOk.none,by (try simp only [CA]);rw [List.map_nil];exact hO9.cut sb_⟩
 case round=>
  clear hO9;obtain ⟨i,c,L,rfl,hi,HL,hO⟩:=hrel;rename World=>w1
  simp only [List.cons_append,List.nil_append] at hO
  ((try clear hf);have hf:=fa_ hO)
  by_cases hlt:i<R.length
  ·have hd:=List.drop_eq_getElem_cons hlt;have hm:=List.getElem_mem hlt;have hk:=zBQ (HR.out.key _ hm);have hv:=HR.out.val _ hm;have hko:=HR.out.key _ hm;have HT:=Lib.hid (show R.take (i+1)=R.take i++[R[i]] by rw [List.take_add_one,List.getElem?_eq_getElem hlt];rfl);have HU:RUps (R.take i++[R[i]]):=by rw [←HT.out];exact HR.out.ups.sublist (List.take_sublist _ _)
   obtain ⟨z0,z1,z2,z3,z4,z5⟩:=zSW (l:=R.drop (i+1)) hk hv;rw [←hd] at z0 z1 z2 z3 z4 z5;generalize R[i]=r at *;obtain ⟨k,v⟩:=r;dsimp only at *;have HK:=fun w h=>zGW k w h (by omega)
   rw [zCc hko,show errV 0=.nilIface from rfl] at HK;have HA:=Lib.hid (zRI HU);have HN:=fun x hx=>zBr ((List.pairwise_append.1 HU).2.2 x hx ⟨k,v⟩ (List.mem_singleton_self _))
   have HN2:=Lib.hid (show ∀x∈L,x.key≠k from fun x hx=>HN (SE.rw x) (HL.out.perm.mem_iff.1 (List.mem_map.2 ⟨x,hx,rfl⟩)));have HIN:getE k (L.map SE.en)=none:=zEF fun x hx=>by obtain ⟨y,hy,rfl⟩:=List.mem_map.1 hx;exact HN2.out y hy
   have hne:allT (R.drop i)≠⟨#[]⟩:=fun e=>by rw [e] at z0;have z9:0=2+k.size+v.size+(allT (R.drop (i+1))).size:=z0;omega
   have hne2:(!(allT (R.drop i)).toList.isEmpty)=true:=by
    rw [Bool.not_eq_true',List.isEmpty_eq_false_iff];intro e;exact hne (zBH (e.trans (show ([]:List UInt8)=(⟨#[]⟩:ByteArray).toList from by simp)))
   clear HN HU hd hm hko;have ht1:(allT (R.drop (i+1))).size≤100000:=by
    have h8:=zE0 (R:=R.drop (i+1)) (fun x hx=>HR.out.key x (List.mem_of_mem_drop hx)) (fun x hx=>HR.out.val x (List.mem_of_mem_drop hx));rw [List.length_drop] at h8;omega
   generalize allT (R.drop i)=t at *;have y1:=z1 (by omega);have y2:=z2 (by omega);clear z1 z2
   ((try clear hf);have hf:=fa_ hO)
   go_wp2_with (first|(go_at_call 111;(with_reducible apply Calls.mono (HK _ (Own.immOf (φ:=LibOk) hO pk_));rintro e8 w8 ⟨rfl,hx8⟩;replace hO:=hO.ext hx8;clear hx8;dsimp only;((try clear hf);have hf:=fa_ hO)))|((refine sy_ hO ?_);clear hO;intro w9 hO;(try dsimp only [List.set] at hO);((try clear hf);have hf:=fa_ hO)));(refine zAW (fun _=>True) (fun _ _ _ _=>trivial) trivial ((0,0)::(1,1)::(0,2)::(0,3)::(0,4)::(0,5)::(3,6)::(0,7)::(0,8)::(0,9)::(3,10)::(0,11)::(0,12)::(1,13)::(0,14)::(0,15)::[]) (by kernel_rfl) (by kernel_rfl) rfl (fun _ _ d _ _ h=>by cases d<;>exact h) ?_;intro w9 hx9;replace hO:=hO.ext hx9;clear hx9;((try clear hf);have hf:=fa_ hO);(repeat (first|(apply zAG _ rfl rfl rfl;focus (intro w8 K8 hK8;(repeat (first | go_skip | go_guarded | go_step));exact hK8))|(apply zAJ _ rfl rfl rfl;focus (intro w8 hx8 K8 hK8;have hO:=hO.ext hx8;((try clear hf);have hf:=fa_ hO);skip;(repeat (first | go_skip | go_guarded | go_step));exact hK8))|(apply zAL _ rfl;(focus (intro w8 hx8 K8 hK8;have hO:=hO.ext hx8;((try clear hf);have hf:=fa_ hO);(repeat (first | go_skip | go_guarded | go_step | fail));(first | exact xt_ | exact hK8 _ xt_)));(focus (exact rfl));intro w8 hx8;replace hO:=hO.ext hx8;clear hx8;((try clear hf);have hf:=fa_ hO)))));refine zAA ?_;go_wp2_with (first|(go_at_call 111;(with_reducible apply Calls.mono (HK _ (Own.immOf (φ:=LibOk) hO pk_));rintro e8 w8 ⟨rfl,hx8⟩;replace hO:=hO.ext hx8;clear hx8;dsimp only;((try clear hf);have hf:=fa_ hO)))|((refine sy_ hO ?_);clear hO;intro w9 hO;(try dsimp only [List.set] at hO);((try clear hf);have hf:=fa_ hO)));(refine zAW (fun _=>True) (fun _ _ _ _=>trivial) trivial ((0,0)::(0,1)::(0,2)::(0,3)::(0,4)::(0,5)::(0,6)::(0,7)::(5,8)::[]) (by kernel_rfl) (by kernel_rfl) rfl (fun _ _ d _ _ h=>by cases d<;>exact h) ?_;intro w9 hx9;replace hO:=hO.ext hx9;clear hx9;((try clear hf);have hf:=fa_ hO);(repeat (first|(apply zAG _ rfl rfl rfl;focus (intro w8 K8 hK8;(repeat (first | go_skip | go_guarded | go_step));exact hK8))|(apply zAJ _ rfl rfl rfl;focus (intro w8 hx8 K8 hK8;have hO:=hO.ext hx8;((try clear hf);have hf:=fa_ hO);skip;(repeat (first | go_skip | go_guarded | go_step));exact hK8))|(apply zAL _ rfl;(focus (intro w8 hx8 K8 hK8;have hO:=hO.ext hx8;((try clear hf);have hf:=fa_ hO);(repeat (first | go_skip | go_guarded | go_step | fail));(first | exact xt_ | exact hK8 _ xt_)));(focus (exact rfl));intro w8 hx8;replace hO:=hO.ext hx8;clear hx8;((try clear hf);have hf:=fa_ hO)))));(refine zAE rfl ?_;intro K8 hK8;(repeat (first | go_skip | go_guarded));refine zDC (k:=k) hO pk_ rfl _ _ _ rfl Tryz.underlying229 Tryz.underlying9 rfl (congrArg Value.string z3) (.string v) (congrArg Value.string z4) HIN ?_;clear hO;intro w9 hO;((try clear hf);have hf:=fa_ hO);go_step;refine hK8 _ _ trivial ?_;clear hK8 K8);refine zAA ?_;go_wp2_with (first|((refine sy_ hO ?_);clear hO;intro w9 hO;(try dsimp only [List.set] at hO);((try clear hf);have hf:=fa_ hO)));refine ⟨⟨i+1,c+1,L++[(⟨k,v,c⟩:SE)],congrArg Value.string z5,by omega,Lib.hid (by rw [HT.out,←HA.out];exact HL.out.add v HN2.out),?_⟩,?_⟩
   ·rw [show (L++[(⟨k,v,c⟩:SE)]).map SE.en=L.map SE.en++[⟨k,.string v,c⟩] from by rw [List.map_append];rfl];(try simp only [CA]);exact hO.cut sb_
   ·show (t.extract (2+k.size+v.size) (2+k.size+v.size+(allT (R.drop (i+1))).size)).size<t.size;rw [z5];omega
  ·have hnil:R.drop i=[]:=List.drop_of_length_le (by omega);have ht:R.take i=R:=List.take_of_length_le (by omega);rw [hnil];rw [ht] at HL;unfold allT;go_wp2_with (first|((refine sy_ hO ?_);clear hO;intro w9 hO;(try dsimp only [List.set] at hO);((try clear hf);have hf:=fa_ hO)));have hO:=hO.toPure (p:=SesOk L c R) HL.out;go_ret2;refine ⟨b9,rfl,?_⟩;dsimp only;(try simp only [CA]);have h8:Own S W _ (StM b9 R::.imm LibOk::L0):=Own.toEx (c,L) (Own.pack (by dsimp only;(try simp only [CA]);exact hO.cut sb_));exact h8.cut sb_
def zBi (B:List ByteArray):Nat→Hd
 | 0=>⟨0,0,0,0⟩
 | n+1=>if (zBi B n).ep<(zBO ((B[n]?).getD ⟨#[]⟩)).ep then zBO ((B[n]?).getD ⟨#[]⟩) else zBi B n
theorem StB.best {k:Nat} {B:List ByteArray} {h:Hd} {R0:List Rw} {W:List (List Ch)} {u:Nat} (s:StB k B h R0 W u):zBi B 2=h:=by
 have e1:=s.e1;have e2:=s.e2;have f1:=s.f1;have f2:=s.f2;have hh:=s.head;obtain ⟨x,hx,hx2⟩:=s.other;have ho:zBO (zAK (zAQ h))=h:=zJT (by omega) s.s1 (by rw [s.sz];have:=s.rows.size;omega) f1 (by omega);have hm:h.ep % 2=0∨h.ep % 2=1:=by omega
 rcases hm with hm | hm
 ·rw [hm] at hh hx;have h1:zBO ((B[0]?).getD ⟨#[]⟩)=h:=by rw [hh];exact ho
  have h2:zBO ((B[1]?).getD ⟨#[]⟩)=zBO x:=by rw [show B[1]?=some x from hx];rfl
  have b1:zBi B 1=h:=by rw [zBi,h1,zBi,if_pos (by show 0<h.ep;omega)]
  rw [zBi,b1,h2,if_neg (by omega)]
 ·rw [hm] at hh hx;have h1:zBO ((B[1]?).getD ⟨#[]⟩)=h:=by rw [hh];exact ho
  have h2:zBO ((B[0]?).getD ⟨#[]⟩)=zBO x:=by rw [show B[0]?=some x from hx];rfl
  have b1:(zBi B 1).ep<h.ep:=by
   rw [zBi,h2,zBi];split
   ·exact hx2
   ·show 0<h.ep;omega
  rw [zBi,h1,if_pos b1]
theorem StB.sec {k:Nat} {B:List ByteArray} {h:Hd} {R0:List Rw} {W:List (List Ch)} {u:Nat} (s:StB k B h R0 W u) {n:Nat} (hn:n<k):∃x,B[n]?=some x∧x.size=96:=by
 have hl:=s.len;have hb:n<B.length:=by omega
 exact ⟨_,List.getElem?_eq_getElem hb,s.full _ (List.getElem_mem hb)⟩
theorem zPB (p m:Nat) (d:Dk) (h:Hd) (R0:List Rw) (W0:List (List Ch)) (u:Nat) (hd:d.down=false) (s:StB (m+50) d.now h R0 W0 u) :
 Does Tryz.prog 81 #[.pointer (some ⟨p,0,none⟩)] [zAC p d,.imm LibOk]
  (fun x:Nat×Nat×Nat=>(.tuple #[.pointer (some ⟨x.1,0,none⟩),.nilIface],
   [Var x.1 (stC p h.ep h.si h.sz h.fi x.2.1 x.2.2) 233,Var x.2.1 [.pointer (some ⟨p,0,none⟩),.int .i64 ((50:Nat):Int),.int .i64 (m:Int),.int .i64 h.fi,.int .i64 u] 295,StM x.2.2 (zAF R0 W0),zAC p d,.imm LibOk])):=by
 have HS:=zBE p d;rw [s.len,show ((m+50:Nat):Int)=(m:Int)+50 from by omega] at HS;have HDn:=zIh p d;rw [hd] at HDn;have k1:=s.k1;have k2:=s.k2;have HB:=Lib.hid s;have HOP:=zKJ p d 50 m h.fi (secs d.now 50 m) W0 u hd (by omega) (by rw [s.len];omega) (by rw [s.len];omega) s.full s.f1 (by have:=s.f2;have:=s.e2;omega) rfl (by have:=s.sc;rw [Nat.add_sub_cancel] at this;exact this);intro S W w L0 hO;simp only [CA] at hO;(replace hf:=fa_ hO);go_enter Tryz.func81,Tryz.ntmps81;go_wp2_with (first|(go_at_call 62;(with_reducible refine Reads.use hO (HDn) tk_ (ru_ ?_);clear hO hf;intro w9 hO hf))|(go_at_call 143;(with_reducible refine Reads.use hO (HS) tk_ (ru_ ?_);clear hO hf;intro w9 hO hf))|(refine sq_ ?_;clear hO hf;intro w9 hO hf));obtain ⟨s9,hg9⟩:=(hO.pick (r:=Var _ [.pointer (some ⟨p,0,none⟩),.int .i64 0,.int .i64 0,.int .i64 0,.int .i64 0,.pointer none,.map none] 233) pk_).named;rw [←hg9];rw [←hg9] at hO;clear hg9;have hO9:=hO;clear hO hf;go_loopw [30] (fun v wr=>∃i:Nat,v=.int .i64 i∧i≤2∧Own S W wr ([Var s9 [.pointer (some ⟨p,0,none⟩),.int .i64 (zBi d.now i).ep,.int .i64 (zBi d.now i).si,.int .i64 (zBi d.now i).sz,.int .i64 (zBi d.now i).fi,.pointer none,.map none] 233,zAC p d,.imm LibOk]++L0)) (fun v _=>2-(intOf v).toNat)
 case atStart=>exact ⟨0,rfl,by omega,hO9⟩
 case round=>
  clear hO9;obtain ⟨i,rfl,hi,hO⟩:=hrel;rename World=>w1
  simp only [List.cons_append,List.nil_append] at hO;(replace hf:=fa_ hO);by_cases hlt:i<2
  ·obtain ⟨x,hx,hx2⟩:=HB.out.sec (n:=i) (by omega);have HRD:=zJh (p:=p) hd hx;have HHD:=fun w=>zO2 x w hx2
   unfold Hd.cells at HHD;have HN:=Lib.hid (show zBi d.now (i+1)=if (zBi d.now i).ep<(zBO x).ep then zBO x else zBi d.now i by rw [zBi,hx];rfl);generalize zBO x=hx9 at *;generalize zBi d.now i=hb at *;obtain ⟨a0,a1,a2,a3⟩:=hx9;obtain ⟨b0,b1,b2,b3⟩:=hb;dsimp only at *;clear hx;by_cases hc:b0<a0
   ·have HN2:=Lib.hid (show zBi d.now (i+1)=⟨a0,a1,a2,a3⟩ by rw [HN.out,if_pos hc]);go_wp2_with (first|(go_at_call 160;(with_reducible refine Reads.use hO (HRD) tk_ (ru_ ?_);clear hO;(try clear hf);intro w9 hO hf))|(go_at_call 161;(with_reducible refine Own.quiet hO (HHD _) (ru_ ?_);clear hO;(try clear hf);intro w9 hO hf))|(refine sq_ ?_;clear hO;(try clear hf);intro w9 hO hf));obtain ⟨g,hg9⟩:=(hO.pick (r:=Var _ [.int .i64 a0,.int .i64 a1,.int .i64 a2,.int .i64 a3] 223) pk_).named;rw [←hg9];rw [←hg9] at hO;clear hg9;(replace hf:=fa_ hO);(refine rg_ hO ((0,0)::(1,1)::(0,2)::(0,3)::(0,4)::(0,5)::(1,6)::(0,7)::[]) ?_;clear hO;intro w9 hO;replace hf:=fa_ hO;(refine ss_ hO ?_;clear hO hf;intro w9 hO hf));refine zAA ?_;go_wp2_with (refine sq_ ?_;clear hO hf;intro w9 hO hf);refine ⟨⟨i+1,by go_num,by omega,?_⟩,by simp [intOf];omega⟩;rw [HN2.out];dsimp only;(try simp only [CA]);exact hO.cut sb_
   ·have HN2:=Lib.hid (show zBi d.now (i+1)=⟨b0,b1,b2,b3⟩ by rw [HN.out,if_neg hc]);go_wp2_with (first|(go_at_call 160;(with_reducible refine Reads.use hO (HRD) tk_ (ru_ ?_);clear hO;(try clear hf);intro w9 hO hf))|(go_at_call 161;(with_reducible refine Own.quiet hO (HHD _) (ru_ ?_);clear hO;(try clear hf);intro w9 hO hf))|(refine sq_ ?_;clear hO;(try clear hf);intro w9 hO hf));obtain ⟨g,hg9⟩:=(hO.pick (r:=Var _ [.int .i64 a0,.int .i64 a1,.int .i64 a2,.int .i64 a3] 223) pk_).named;rw [←hg9];rw [←hg9] at hO;clear hg9;(replace hf:=fa_ hO);(refine rg_ hO ((0,0)::(1,1)::(0,2)::(0,3)::(0,4)::(0,5)::(1,6)::(0,7)::[]) ?_;clear hO;intro w9 hO;replace hf:=fa_ hO;(refine ss_ hO ?_;clear hO hf;intro w9 hO hf));refine zAA ?_;go_wp2_with (refine sq_ ?_;clear hO hf;intro w9 hO hf);refine ⟨⟨i+1,by go_num,by omega,?_⟩,by simp [intOf];omega⟩;rw [HN2.out];dsimp only;(try simp only [CA]);exact hO.cut sb_
  ·obtain rfl:i=2:=by omega
   rw [HB.out.best] at hO;have he1:=HB.out.e1;have hs1:=HB.out.s1;clear hlt hi;(replace hf:=fa_ hO);go_wp2_with (refine sq_ ?_;clear hO hf;intro w9 hO hf);have hO9:=hO;clear hO hf;go_loopw [9,64] (fun v9 v64 wr=>∃i:Nat,v9=.string (catB d.now (2+24*h.si) i)∧v64=.int .i64 i∧i≤24∧Own S W wr ([Var s9 [.pointer (some ⟨p,0,none⟩),.int .i64 h.ep,.int .i64 h.si,.int .i64 h.sz,.int .i64 h.fi,.pointer none,.map none] 233,zAC p d,.imm LibOk]++L0)) (fun _ v _=>24-(intOf v).toNat)
   case atStart=>exact ⟨0,rfl,rfl,by omega,by (try simp only [CA]);exact hO9.cut sb_⟩
   case round=>
    clear hO9;obtain ⟨i,rfl,rfl,hi,hO⟩:=hrel;rename World=>w2
    simp only [List.cons_append,List.nil_append] at hO;(replace hf:=fa_ hO);by_cases hlt:i<24
    ·obtain ⟨x,hx,hx2⟩:=HB.out.sec (n:=2+24*h.si+i) (by omega);have HRD:=zJh (p:=p) hd hx;rw [show ((2+24*h.si+i:Nat):Int)=2+(h.si:Int)*24+i from by omega] at HRD;have HN:=Lib.hid (show catB d.now (2+24*h.si) (i+1)=catB d.now (2+24*h.si) i++x by rw [catB,hx];rfl);have hcs:=(zG7 (B:=d.now) (p:=2+24*h.si) (n:=i) fun j hj=>HB.out.sec (by omega)).1;generalize catB d.now (2+24*h.si) i=t at *;clear hx;go_wp2_with (first|(go_at_call 160;(with_reducible refine Reads.use hO (HRD) tk_ (ru_ ?_);clear hO;(try clear hf);intro w9 hO hf))|(refine sq_ ?_;clear hO;(try clear hf);intro w9 hO hf));refine ⟨⟨i+1,by rw [HN.out],by go_num,by omega,?_⟩,by simp [intOf];omega⟩;(try simp only [CA]);exact hO.cut sb_
    ·obtain rfl:i=24:=by omega
     have hcs:=(zG7 (B:=d.now) (p:=2+24*h.si) (n:=24) fun j hj=>HB.out.sec (by omega)).1;have hbase:=HB.out.base;have hsz:h.sz≤2304:=by rw [HB.out.sz];have:=HB.out.rows.size;omega
     generalize catB d.now (2+24*h.si) 24=t at *;have HPA:=zOn R0 HB.out.rows;have HTL:=HB.out.rows.size;generalize allT R0=ta at *;clear hlt hi;go_wp2_with (first|(go_at_call 162;(with_reducible refine Does.use hO (HPA) tk_ (du_ ?_);clear hO;(try clear hf);intro x9 w9 hO hf))|(refine sq_ ?_;clear hO;(try clear hf);intro w9 hO hf));rename Nat=>b0
     (refine rg_ hO ((0,0)::(0,1)::(3,2)::(0,3)::(0,4)::(0,5)::(0,6)::(0,7)::(1,8)::(5,9)::(0,10)::(0,11)::(0,12)::(0,13)::(0,14)::(0,15)::(0,16)::[]) ?_;clear hO;intro w9 hO;replace hf:=fa_ hO;(repeat (first|(apply zAG _ rfl rfl rfl;focus (intro w8 K8 hK8;(repeat (first | go_skip | go_guarded | go_step));exact hK8))|(apply zAJ _ rfl rfl rfl;focus (intro w8 hx8 K8 hK8;have hO:=hO.ext hx8;(replace hf:=fa_ hO);skip;(repeat (first | go_skip | go_guarded | go_step));exact hK8))|(apply zAL _ rfl;(focus (intro w8 hx8 K8 hK8;have hO:=hO.ext hx8;(replace hf:=fa_ hO);(repeat (first | go_skip | go_guarded | go_step | (go_at_call 143;(with_reducible refine Reads.use hO (HS) tk_ ?_;intro w7 hx7 hO7;clear hO7;dsimp only))));(first | exact xt_ | exact hK8 _ xt_)));(focus (exact rfl));intro w8 hx8;replace hO:=hO.ext hx8;clear hx8;(replace hf:=fa_ hO)))));(refine zAE rfl ?_;intro K8 hK8;(repeat (first | go_skip | go_guarded | go_step));(go_at_call 159;(with_reducible refine Does.use hO (HOP) tk_ (du_ ?_);clear hO hf;intro x9 w9 hO hf;(obtain ⟨q9,⟨oa,oc⟩,D⟩:=x9;dsimp only at hO ⊢;(replace hf:=fa_ hO))));(repeat go_step);refine hK8 _ _ trivial ?_;clear hK8 K8);(refine ss_ hO ?_;clear hO hf;intro w9 hO hf);refine zAA ?_;go_wp2_with (refine sq_ ?_;clear hO hf;intro w9 hO hf);have hD9:=Own.pureOf (p:=dss D=W0) hO pk_;replace hO:=hO.dl (a:=oa) (n:=D.length) (c:=oc) (D:=D) tk_;have hsl:=zHq h.fi (secs d.now 50 m) 0 [] [] 0 W0 u (by have:=HB.out.sc;rw [Nat.add_sub_cancel] at this;exact this);rw [zDF (by rw [HB.out.len];omega)] at hsl;simp only [List.length_nil,Nat.zero_add] at hsl;have hDl:D.length=W0.length:=by rw [←hD9];simp [dss]
     have HD:=Lib.hid hD9;have HSL:=Lib.hid hsl.2;have hDm:D.length≤m:=by omega
     clear hD9 hsl;(replace hf:=fa_ hO);have hO9:=hO;clear hO hf;go_loopw [129] (fun v wr=>∃(i b:Nat),v=.int .i64 i∧i≤D.length∧Own S W wr ([Var s9 [.pointer (some ⟨p,0,none⟩),.int .i64 h.ep,.int .i64 h.si,.int .i64 h.sz,.int .i64 h.fi,.pointer (some ⟨q9,0,none⟩),.map (some b)] 233,StM b (zAF R0 (W0.take i)),Var q9 [.pointer (some ⟨p,0,none⟩),.int .i64 ((50:Nat):Int),.int .i64 (m:Int),.int .i64 h.fi,.int .i64 u] 295,.imm (fun w=>DLAt w oa D),zAC p d,.imm LibOk]++L0)) (fun v _=>D.length-(intOf v).toNat)
     case atStart=>exact ⟨0,b0,rfl,by omega,by rw [show zAF R0 (W0.take 0)=R0 from rfl];(try simp only [CA]);exact hO9.cut sb_⟩
     case round=>
      clear hO9;obtain ⟨i,b,rfl,hi,hO⟩:=hrel;rename World=>w3
      simp only [List.cons_append,List.nil_append] at hO;(replace hf:=fa_ hO);by_cases hlt:i<D.length
      ·have hg:(D.map dv)[i]?=some (dv D[i]):=by rw [List.getElem?_map,List.getElem?_eq_getElem hlt];rfl
       have hDL:=Own.immOf (φ:=fun w=>DLAt w oa D) hO pk_;obtain ⟨bo,off,rfl⟩:=ValsAt.some (a:=oa) hDL.1 hg;have c0:=ValsAt.get hDL.1 hg;have HT:=Lib.hid (show W0.take (i+1)=W0.take i++[(D[i]).2.2] by rw [←HD.out];unfold dss;rw [List.take_add_one,List.getElem?_map,List.getElem?_eq_getElem hlt];rfl);have hCl:(D[i]).2.2.length≤100000:=by
        rcases HSL.out (D[i]).2.2 (by rw [←HD.out];exact List.mem_map.2 ⟨_,List.getElem_mem hlt,rfl⟩) with h8 | h8
        ·exact (List.not_mem_nil h8).elim
        ·omega
       have hm:=List.getElem_mem hlt;replace hO:=((hO.pick (r:=.imm fun w=>DLAt w (some ⟨bo,off,none⟩) D) pk_).again).imp (ψ:=fun w=>ValsAt w (D[i]).1 (chs (D[i]).2.2)) (fun w h8=>h8.2 _ hm);clear hDL hg hm;generalize D[i]=e at *;obtain ⟨da,dc,C⟩:=e;dsimp only [dv] at *;have HAP:=zCQ b (zAF R0 (W0.take i)) da C.length dc C rfl hCl;have HR:=Lib.hid (show zAF R0 (W0.take (i+1))=C.foldl appR (zAF R0 (W0.take i)) by rw [HT.out,zEK]);generalize zAF R0 (W0.take i)=Ri at *;(replace hf:=fa_ hO);go_wp2_with (first|(go_at_call 150;(with_reducible refine Does.use hO (HAP) tk_ (du_ ?_);clear hO hf;intro x9 w9 hO hf))|(refine sq_ ?_;clear hO hf;intro w9 hO hf));rename Nat=>b2
       refine ⟨⟨i+1,b2,by go_num,by omega,?_⟩,by simp [intOf];omega⟩;rw [HR.out];(try simp only [CA]);exact hO.cut sb_
      ·have hW:W0.take i=W0:=List.take_of_length_le (by omega);rw [hW] at hO;go_wp2_with (refine sq_ ?_;clear hO;(try clear hf);intro w9 hO hf);go_ret2;refine ⟨(s9,q9,b),rfl,?_⟩;dsimp only;unfold stC;(try simp only [CA]);exact hO.cut sb_
end Go.Proofs.YtagcmjmcjpjihaaGreatDoor
namespace Go.Proofs.YtagcmjmcjpjihaaGreatDoor
open Go.RowKit Go.Lib
section
variable {P:Program} {S:Nat→Prop} {W w:World} {l:List Rs} {ops:Array Oper} {rest:List Oper} {a:Act} {Q:Exit→Act→World→Prop}
theorem zJd (w:World) (t u ty e:TypeId) (i:TypeInfo) (ht:P.underlying t=some (.slice e)) (hu:P.underlying u=some .string) (hi:P.info? e=some i) (hz:i.zero=some (.int .u8 0))
 (hsize:i.size=1) (hby:i.bytes=1) (v:Value) (n:Nat) (xs:List Value) (hown:w.ownsRow 0 e 1 v n xs) (s:ByteArray) (h63:n+s.size≤maxLen) (hbytes:n+s.size≤140737488355328) :
 ∃v' w',(Builtin.append_ #[t,u] ty #[v,.string s]).run P w=.ok v' w'∧w'.ownsRow 0 e 1 v' (n+s.size) (xs++strCells s)∧w.grownBy w' v.ownBlock∧
  ∀b,v'.ownBlock=some b→v.ownBlock=some b∨w.heap.size≤b:=by
 obtain ⟨v',w',hr,h2,h3,h4⟩:=run_append_own_string (P:=P) (w:=w) 0 t u ty e i ht hu hi hz hsize hby v n xs hown s h63 hbytes (Nat.zero_le _);refine ⟨v',w',hr,h2,h3,?_⟩;have h63':n+s.size≤9223372036854775807:=by simp only [maxLen] at h63;omega
 rcases hown.2 with ⟨rfl,rfl⟩ | ⟨g,cap,cur,rfl,hbg,hg,hnc,hcm,hcs,htake⟩
 ·by_cases hm:s.size=0
  ·intro b hb;rw [h4.2 ⟨rfl,hm⟩] at hb;cases hb
  ·have hr2:=run_append_nil_string (P:=P) w t u ty e i (.int .u8 0) ht hu hi hz s (by omega) (by omega) (by rw [hby];omega);have:=hr.symm.trans hr2;injection this with e1 _
   subst e1;intro b hb;simp only [Value.ownBlock,Option.some.injEq] at hb;exact .inr (by omega)
 ·by_cases hroom:n+s.size≤cap
  ·have hcs':cur.size=cap:=by simpa using hcs
   have hr2:=run_append_room_string (P:=P) w t u ty e i ht hu hi hsize g n cap cur hg s hroom (by omega);have:=hr.symm.trans hr2;injection this with e1 _
   subst e1;exact fun b hb=>.inl hb
  ·have holds:∀j u,xs[j]?=some u→w.cell? ((⟨g,0,none⟩:Addr).add j)=some u:=hown.cells (g:=g) rfl;have hr2:=run_append_grow_string (P:=P) w t u ty e i (.int .u8 0) ht hu hi hz ⟨g,0,none⟩ n cap xs (by rw [hsize];simpa using hown.1) holds s (by omega) (by omega) (by rw [hby];exact growslice_fits (by omega) (by omega));have:=hr.symm.trans hr2;injection this with e1 _
   subst e1;intro b hb;simp only [Value.ownBlock,Option.some.injEq] at hb;exact .inr (by omega)
theorem zHG {o:Oper} (hO:Own S W w l) {e:TypeId} {va:Option Addr} {n vc:Nat} {xs:List Value} {l0:List Rs} (hp:Pick l (Row2 e 1 va n vc xs) l0) (hgd:o.guard=none) (s x:Operand) (t u:TypeId)
 (ho:o.op=.call { callee:=.builtin .append,args:=#[s,x],argTypes:=#[t,u] })
 (i:TypeInfo) (ht:P.underlying t=some (.slice e)) (hu:P.underlying u=some .string) (hi:P.info? e=some i) (hz:i.zero=some (.int .u8 0))
 (hsize:i.size=1) (hby:i.bytes=1) (hs:a.eval s=.slice va n vc) (b:ByteArray) (hx:a.eval x=.string b)
 (h63:n+b.size≤maxLen) (hbytes:n+b.size≤140737488355328)
 (h:∀ka kc w',Own S W w' (Row2 e 1 ka (n+b.size) kc (xs++strCells b)::l0)→wpList P ops Q rest (a.put o.dst (.slice ka (n+b.size) kc)) w'):wpList P ops Q (o::rest) a w:=by
 obtain ⟨M,Z,⟨h2,h3⟩,h4,_,k⟩:=(hO.pick hp).turn1;obtain ⟨v',w',hr,q2,q3,q4⟩:=zJd (P:=P) w t u o.type e i ht hu hi hz hsize hby (.slice va n vc) n xs h2 b h63 hbytes;obtain ⟨hr',hc',hf'⟩:=Row.grown (F:=fun b=>(Value.slice va n vc).ownBlock=some b) ⟨h2,fun _=>Iff.rfl⟩ q2 q3 q4;obtain ⟨ka,kc,rfl⟩:=Row.shape hr';refine wpList_plain hgd fun K hK=>?_
 unfold Oper.wp execOp;simp only [ho,resolve,invoke,builtin,Sem.run_bind,Sem.run_pure,Result.andThen_ok,List.map_toArray,List.map_cons,List.map_nil,hs,hx,hr];exact hK _ _ (h ka kc w' (k w' _ (fun c=>(Value.slice ka (n+b.size) kc).ownBlock=some c) (hc'.mono h3) (fun c hb=>(hf' c hb).imp (h3 c) id) (fun c hb=>(Row _ _ _ _ _).here hr' hb) ⟨hr'.1,fun c hb=>hb⟩))
end
theorem zJw:Tryz.prog.underlying 297=some (.pointer 299):=by kernel_rfl
theorem zI8:Tryz.prog.underlying 350=some .unsafePointer:=by kernel_rfl
theorem zMm:(Tryz.prog.info? 299).map (·.size)=some 2:=by kernel_rfl
theorem zSQ:liesAt Tryz.prog Tryz.prog.depth 299 (2 / Tryz.prog.cellsOf 299) 0 299 1=true:=by kernel_rfl
theorem zP2 (b:Nat) (w:World) (h0:w.cell? ⟨b,0,none⟩=some (.pointer (some ⟨b,0,none⟩))) :
 Calls Tryz.prog 251 #[.pointer (some ⟨b,0,none⟩)] w fun e w'=>e=.returned (.tuple #[])∧w'=w:=by
 obtain ⟨j,hj,_⟩:=Option.map_eq_some_iff.1 zMm;go_enter Tryz.func251,Tryz.ntmps251;go_wp2;rw [Lib.run_neq_ptr_same w _ zJw hj];go_wp2;go_end0;exact ⟨rfl,rfl⟩
theorem zO6 (b:Nat) (w:World) (h0:w.cell? ⟨b,0,none⟩=some (.pointer none)) (hsh:w.shape? b=some (299,2)) (hfz:w.frozen? ⟨b,0,none⟩=false) :
 Calls Tryz.prog 251 #[.pointer (some ⟨b,0,none⟩)] w fun e w'=>e=.returned (.tuple #[])∧w'=w.setCell ⟨b,0,none⟩ (.pointer (some ⟨b,0,none⟩)):=by
 obtain ⟨j,hj,hjs⟩:=Option.map_eq_some_iff.1 zMm;go_enter Tryz.func251,Tryz.ntmps251;go_wp2;rw [Lib.run_to_unsafe w ⟨b,0,none⟩ zJw zI8 hj (by rw [hjs];decide) hsh (Nat.zero_lt_succ 1)];simp only [Result.andThen];rw [Oper.upon_value];go_wp2;rw [run_callFunc_extern Tryz.func284 (by kernel_rfl) (by kernel_rfl) (by kernel_rfl) (e:=Extern.AbiNoEscape.same) (by kernel_rfl)];rw [Lib.run_noEscape];simp only [Result.andThen];rw [Oper.upon_value];go_wp2;rw [Lib.run_from_unsafe w ⟨b,0,none⟩ zI8 zJw hj hsh zSQ];simp only [Result.andThen];rw [Oper.upon_value];go_wp2;go_end0;exact ⟨rfl,rfl⟩
theorem zME (a b:ByteArray):strCells (a++b)=strCells a++strCells b:=by unfold strCells;rw [zAB,List.map_append]
def bldP (b:Nat) (u:Bool):Value:=.pointer (if u then some ⟨b,0,none⟩ else none)
def Bld (b:Nat) (acc:ByteArray):Rs:=.ex fun x:Bool×Option Addr×Nat=>.many [Var b [bldP b x.1,.slice x.2.1 acc.size x.2.2] 299,Row2 5 1 x.2.1 acc.size x.2.2 (strCells acc)]
theorem zPx (b:Nat) (u:Bool) (v:Value):Does Tryz.prog 251 #[.pointer (some ⟨b,0,none⟩)] [Var b [bldP b u,v] 299] (fun _:Unit=>(.tuple #[],[Var b [bldP b true,v] 299])):=by
 intro S W w L0 hO;simp only [CA] at hO;(replace hf:=fa_ hO);cases u with
 | true=>
  refine (zP2 b w hf.1.1.1).mono ?_;rintro e w' ⟨rfl,rfl⟩;refine ⟨(),rfl,?_⟩;dsimp only;(try simp only [CA]);exact hO
 | false=>
  have hsh:w.shape? b=some (299,2):=by
   obtain ⟨M,Z,h1,_⟩:=hO.turn1;simp [World.shape?,h1.1]
  refine (zO6 b w hf.1.1.1 hsh (hf.1.2.1 0)).mono ?_;rintro e w' ⟨rfl,rfl⟩;refine ⟨(),rfl,?_⟩;dsimp only;(try simp only [CA]);exact Own.set (i:=0) hO (Put.here _ _ _)
theorem Tryz.infoU8b:(Tryz.prog.info? 5).map (fun i=>(i.zero,i.size,i.bytes))=some (some (.int .u8 0),1,1):=by kernel_rfl
theorem zQU (b:Nat) (acc s:ByteArray) (h:acc.size+s.size≤1000000) :
 Does Tryz.prog 219 #[.pointer (some ⟨b,0,none⟩),.string s] [Bld b acc] (fun _:Unit=>(.tuple #[.int .i64 s.size,.nilIface],[Bld b (acc++s)])):=by
 obtain ⟨iU,hiU,hzU,hsU,hbU⟩:=info_parts Tryz.infoU8b;intro S W w L0 hO;simp only [CA] at hO;obtain ⟨⟨u,a,c⟩,hO⟩:=hO.ofEx;replace hO:=hO.unpack;dsimp only at hO;simp only [CA] at hO;(replace hf:=fa_ hO);have HC:=zPx b u (.slice a acc.size c);go_enter Tryz.func219,Tryz.ntmps219;go_wp2_with (first|(go_at_call 251;(with_reducible refine Does.use hO (HC) tk_ (du_ ?_);clear hO hf;intro x9 w9 hO hf))|(at_builtin;(refine zHG hO pk_ rfl (.tmp 12) (.tmp 13) 244 9 rfl iU Tryz.underlying244 Tryz.underlying9 hiU hzU hsU hbU rfl s rfl (by unfold maxLen;omega) (by omega) ?_;clear hO;intro ka9 kc9 w9 hO;(replace hf:=fa_ hO)))|(refine sq_ ?_;clear hO hf;intro w9 hO hf));have e1:acc.size+s.size=(acc++s).size:=by rw [ByteArray.size_append]
 rw [←zME,e1] at hO;go_ret2;refine ⟨(),rfl,?_⟩;dsimp only;(try simp only [CA]);refine Own.toEx (true,ka9,kc9) (Own.pack ?_);dsimp only;(try simp only [CA]);exact hO.cut sb_
theorem zTQ:Tryz.prog.underlying 326=some (.pointer 5):=by kernel_rfl
theorem zRX:Tryz.prog.cellsOf 5=1:=by kernel_rfl
theorem zQ8 (b:Nat) (acc:ByteArray) (h0:0<acc.size) (h1:acc.size≤1000000):Does Tryz.prog 220 #[.pointer (some ⟨b,0,none⟩)] [Bld b acc] (fun _:Unit=>(.string acc,[])):=by
 intro S W w L0 hO;simp only [CA] at hO;obtain ⟨⟨u,a,c⟩,hO⟩:=hO.ofEx;replace hO:=hO.unpack;dsimp only at hO;simp only [CA] at hO;(replace hf:=fa_ hO);have h8:=hO.pick (r:=Row2 5 1 a acc.size c (strCells acc)) pk_;obtain ⟨M,Z,⟨q1,q2⟩,q3,_,kk⟩:=h8.turn1;rcases q1.2 with ⟨hv,_⟩ | ⟨g,cap,cur,hv,hb,hgg,hnc,hcm,hcs,ht⟩
 ·injection hv with _ e;omega
 injection hv with e1 e2 e3
 subst e1;subst e3;have hsh:w.drew.shape? g=some (5,cur.size):=by
  have:w.drew.heap[g]?=some (.cells cur 5 (0,0)):=hgg;simp [World.shape?,this]
 have hl:acc.data.toList≠[]:=by
  intro e;have h6:acc.data.toList.length=0:=by rw [e];rfl
  have h7:acc.data.toList.length=acc.size:=by simp
  omega
 have hll:acc.data.toList.length=acc.size:=by simp
 have hSD:(Builtin.unsafeSliceData_ #[244] 326 #[.slice (some ⟨g,0,none⟩) acc.size c]).run Tryz.prog w.drew=.ok (.pointer (some ⟨g,0,none⟩)) w.drew:=Lib.run_unsafeSliceData_row _ _ _ _ _ _ (by omega);have hUS:(Builtin.unsafeString_ #[326,3] 9 #[.pointer (some ⟨g,0,none⟩),.int .i64 acc.size]).run Tryz.prog w.drew=.ok (.string acc) (w.drew.freeze ⟨g,0,none⟩ acc.size):=by
  have h7:=Lib.run_unsafeString_row (P:=Tryz.prog) (w:=w.drew) 326 3 9 5 zTQ zRX g cur.size hsh acc.data.toList hl (by rw [hll];omega) (by rw [hll];omega) (fun j x hx=>by
   have:=q1.cells (g:=g) rfl j (.int .u8 x.toNat) (by unfold strCells;rw [List.getElem?_map,hx];rfl);exact this)
  rw [hll] at h7;exact h7
 have c1:w.drew.cell? ⟨b,1,none⟩=some (.slice (some ⟨g,0,none⟩) acc.size c):=(hO.drew).varAt (k:=1) pk_ rfl;have mixed:Tryz.prog.follows .mixedOrders=true:=by kernel_rfl
 have hfin:Own S W (w.drew.freeze ⟨g,0,none⟩ acc.size) L0:=by
  obtain ⟨M',Z',⟨r1,r2⟩,r3,_,k2⟩:=h8.drew.turn1;have h9:=k2 (w.drew.freeze ⟨g,0,none⟩ acc.size) (.pure True) M' (by
   unfold World.freeze;rw [if_neg (by omega)];exact ⟨rfl,rfl,rfl,by simp,fun k hk hM=>by
    simp only [Array.getElem?_modify];rw [if_neg (fun e=>hM (by rw [←e];exact r2 g rfl))]⟩) (fun b h=>.inl h) (fun b hb=>by
   have h6:=(r3 b hb).1;unfold World.freeze;rw [if_neg (by omega)];simpa using h6) trivial
  exact h9.cut sb_
 go_enter Tryz.func220,Tryz.ntmps220;go_wp2;go_region_o;all_goals (go_wp2;go_ret;refine ⟨(),rfl,?_⟩;dsimp only;(try simp only [CA]);exact hfin)
theorem zQZ (b:Nat):Does Tryz.prog 220 #[.pointer (some ⟨b,0,none⟩)] [Var b [.pointer none,.slice none 0 0] 299] (fun _:Unit=>(.string ⟨#[]⟩,[])):=by
 intro S W w L0 hO;simp only [CA] at hO;have hSD:(Builtin.unsafeSliceData_ #[244] 326 #[.slice none 0 0]).run Tryz.prog w.drew=.ok (.pointer none) w.drew:=rfl;have hUS:(Builtin.unsafeString_ #[326,3] 9 #[.pointer none,.int .i64 0]).run Tryz.prog w.drew=.ok (.string .empty) w.drew:=Any.unsafeString_none Tryz.lays169 Tryz.Builder_Extra_169 w.drew none;have c1:w.drew.cell? ⟨b,1,none⟩=some (.slice none 0 0):=(hO.drew).varAt (k:=1) pk_ rfl;have mixed:Tryz.prog.follows .mixedOrders=true:=by kernel_rfl
 have hfin:Own S W w.drew L0:=by
  have h9:=hO.drew;exact h9.cut sb_
 go_enter Tryz.func220,Tryz.ntmps220;go_wp2;go_region_o;all_goals (go_wp2;go_ret;refine ⟨(),rfl,?_⟩;dsimp only;(try simp only [CA]);exact hfin)
theorem zLW:∀(a b:List Rw),allT (a++b)=allT a++allT b
 | [],b=>by rw [List.nil_append,allT];exact (zAS (by rw [zAB];rfl)).symm
 | x::a,b=>by rw [List.cons_append,allT,allT,zLW a b,ByteArray.append_assoc]
theorem zRj (r:Rw):allT [r]=rowT r:=by rw [allT,allT];exact zAS (by rw [zAB];simp)
theorem zQ6 (s b:Nat) (R:List Rw) (hR:SRows R) (d h0 h1 h2 h3 lg:Value) :
 Does Tryz.prog 155 #[.pointer (some ⟨s,0,none⟩)] [Var s [d,h0,h1,h2,h3,lg,.map (some b)] 233,StM b R] (fun _:Unit=>(.string (allT R),[Var s [d,h0,h1,h2,h3,lg,.map (some b)] 233,StM b R])):=by
 have HR:=Lib.hid hR;have hRl:=hR.len;have hTs:=hR.size;clear hR;have HRW:=zFe s b R (by omega) d h0 h1 h2 h3 lg;intro S W w L0 hO;simp only [CA] at hO;(replace hf:=fa_ hO);go_enter Tryz.func155,Tryz.ntmps155;go_wp2_with (first|(go_at_call 83;(with_reducible refine Does.use hO (HRW) tk_ (du_ ?_);clear hO hf;intro x9 w9 hO hf;(obtain ⟨ra,rc⟩:=x9;dsimp only at hO ⊢;(replace hf:=fa_ hO))))|(refine sq_ ?_;clear hO hf;intro w9 hO hf));obtain ⟨bb,hg9⟩:=(hO.pick (r:=Var _ [.pointer none,.slice none 0 0] 299) pk_).named;rw [←hg9];rw [←hg9] at hO;clear hg9;by_cases hR0:R=[]
 ·subst hR0;have hO9:=hO;clear hO hf;go_loopw [9] (fun v wr=>v=.int .i64 0∧Own S W wr ([Var bb [.pointer none,.slice none 0 0] 299,Var s [d,h0,h1,h2,h3,lg,.map (some b)] 233,StM b []]++L0)) (fun v _=>0)
  case atStart=>exact ⟨rfl,by (try simp only [CA]);exact hO9.cut sb_⟩
  case round=>
   clear hO9;obtain ⟨rfl,hO⟩:=hrel;rename World=>w1
   simp only [List.cons_append,List.nil_append] at hO;(replace hf:=fa_ hO);have HST:=zQZ bb;go_wp2_with (first|(go_at_call 220;(with_reducible refine Does.use hO (HST) tk_ (du_ ?_);clear hO hf;intro x9 w9 hO hf))|(refine sq_ ?_;clear hO hf;intro w9 hO hf));go_ret;refine ⟨(),rfl,?_⟩;dsimp only;(try simp only [CA]);exact hO.cut sb_
 rename World=>wz
 have h8:=hO.nil 5 1;have hO9:Own S W wz (Bld bb ⟨#[]⟩::Row2 177 2 ra R.length rc (R.flatMap rwC)::Var s [d,h0,h1,h2,h3,lg,.map (some b)] 233::StM b R::L0):=by
  have h9:Own S W wz (Var bb [.pointer none,.slice none 0 0] 299::Row2 5 1 none 0 0 []::Row2 177 2 ra R.length rc (R.flatMap rwC)::Var s [d,h0,h1,h2,h3,lg,.map (some b)] 233::StM b R::L0):=h8.cut sb_;exact Own.toEx (false,none,0) (Own.pack (rs:=[Var bb [.pointer none,.slice none 0 0] 299,Row2 5 1 none 0 0 []]) h9)
 clear hO hf h8;go_loopw [9] (fun v wr=>∃i:Nat,v=.int .i64 i∧i≤R.length∧Own S W wr ([Bld bb (allT (R.take i)),Row2 177 2 ra R.length rc (R.flatMap rwC),Var s [d,h0,h1,h2,h3,lg,.map (some b)] 233,StM b R]++L0)) (fun v _=>R.length-(intOf v).toNat)
 case atStart=>exact ⟨0,rfl,by omega,hO9⟩
 case round=>
  clear hO9;obtain ⟨i,rfl,hi,hO⟩:=hrel;rename World=>w1
  simp only [List.cons_append,List.nil_append] at hO;(replace hf:=fa_ hO);by_cases hlt:i<R.length
  ·have hm:=List.getElem_mem hlt;have hk:=zBQ (HR.out.key _ hm);have hv:=HR.out.val _ hm;have HT:=Lib.hid (show allT (R.take (i+1))=allT (R.take i)++rowT R[i] by rw [List.take_add_one,List.getElem?_eq_getElem hlt,zLW];show _++allT [R[i]]=_;rw [zRj]);have hTi:(allT (R.take i)).size≤2280:=by
    have h6:=zE0 (R:=R.take i) (fun x hx=>HR.out.key x (List.mem_of_mem_take hx)) (fun x hx=>HR.out.val x (List.mem_of_mem_take hx));rw [List.length_take] at h6;omega
   have hsz:=zFC R[i];have g0:=zAj rwC 2 (fun _=>rfl) R i hlt 0 (by omega);have g1:=zAj rwC 2 (fun _=>rfl) R i hlt 1 (by omega);obtain ⟨rb,off,rfl⟩:=ValsAt.some (a:=ra) (hO.vals (a:=ra) pk_) g0;have c0:w1.cell? ⟨rb,off+i*2,none⟩=some (.string R[i].key):=ValsAt.get (hO.vals (a:=some ⟨rb,off,none⟩) pk_) g0;have c1:w1.cell? ⟨rb,off+i*2+1,none⟩=some (.string R[i].val):=ValsAt.get (hO.vals (a:=some ⟨rb,off,none⟩) pk_) g1;have HW:=zQU bb (allT (R.take i)) (rowT R[i]) (by omega);clear g0 g1 hm;generalize R[i]=r at *;obtain ⟨k,v⟩:=r;dsimp only at *;have HRT:=Lib.hid (show rowT ⟨k,v⟩=(⟨#[UInt8.ofNat k.size,UInt8.ofNat v.size]⟩:ByteArray)++k++v from rfl);rw [HRT.out] at HW;generalize allT (R.take i)=acc at *;go_wp2_with (first|(refine zAX hO (r:=Var _ [.int .u8 (k.size:Int),.int .u8 (v.size:Int)] 5) pk_ rfl (.tmp 21) 244 9 5 rfl Tryz.underlying244 Tryz.intU8k Tryz.underlying9 _ 0 2 2 [(k.size:Int),(v.size:Int)] rfl rfl (fun j u hj=>Var.at (t:=5) (hO.factOf (r:=Var _ [.int .u8 (k.size:Int),.int .u8 (v.size:Int)] 5) pk_) j u hj) ?_;rw [zHp];(repeat go_step))|(go_at_call 219;(with_reducible refine Does.use hO (HW) tk_ (du_ ?_);clear hO;(try clear hf);intro x9 w9 hO hf))|(refine sq_ ?_;clear hO;(try clear hf);intro w9 hO hf));refine ⟨⟨i+1,by go_num,by omega,?_⟩,by simp [intOf];omega⟩;rw [HT.out,HRT.out];(try simp only [CA]);exact hO.cut sb_
  ·have hT:R.take i=R:=List.take_of_length_le (by omega);rw [hT] at hO;rcases Nat.eq_zero_or_pos (allT R).size with hz | hz
   ·have HE:allT R=⟨#[]⟩:=zAS (by
     have h6:(allT R).data.toList.length=0:=by rw [←hz];simp
     rw [List.length_eq_zero_iff.1 h6])
    have hRn:R=[]:=by
     cases R with
     | nil=>rfl
     | cons r l=>
      rw [allT,ByteArray.size_append,zFC] at hz;omega
    exact absurd hRn hR0
   ·have HST:=zQ8 bb (allT R) hz (by omega);go_wp2_with (first|(go_at_call 220;(with_reducible refine Does.use hO (HST) tk_ (du_ ?_);clear hO;(try clear hf);intro x9 w9 hO hf))|(refine sq_ ?_;clear hO;(try clear hf);intro w9 hO hf));go_ret;refine ⟨(),rfl,?_⟩;dsimp only;(try simp only [CA]);exact hO.cut sb_
end Go.Proofs.YtagcmjmcjpjihaaGreatDoor
namespace Go.Proofs.YtagcmjmcjpjihaaGreatDoor
open Go.RowKit
end Go.Proofs.YtagcmjmcjpjihaaGreatDoor
set_option linter.unnecessarySimpa false
namespace Go.Proofs.YtagcmjmcjpjihaaGreatDoor
open Go.RowKit Go.Lib
attribute [local go_sem] Oper.semAt_some
section
variable {P:Program} {S:Nat→Prop} {W w:World} {l:List Rs} {ops:Array Oper} {rest:List Oper} {a:Act} {Q:Exit→Act→World→Prop} {o:Oper}
theorem zHM (hO:Own S W w l) (hgd:o.guard=none) (x:Operand) (src dst e:TypeId) (ho:o.op=.convert src dst x) (hs:P.underlying src=some .string) (hd:P.underlying dst=some (.slice e)) (he:P.underlying e=some (.int .u8)) (t:ByteArray) (hx:a.eval x=.string t)
 (ht:t.size≤maxLen)
 (h:∀g cap w',Own S W w' (.imm (fun w=>ValsAt w (some ⟨g,0,none⟩) (strCells t))::l)→t.size≤cap→cap≤maxLen→wpList P ops Q rest (a.put o.dst (.slice (some ⟨g,0,none⟩) t.size cap)) w'):wpList P ops Q (o::rest) a w:=by
 refine wpList_plain hgd fun K hK=>?_
 unfold Oper.wp execOp;have h1:=run_bytes_of_string (P:=P) w src dst e t hs hd he;simp only [ho,Sem.run_bind,hx,h1,Result.andThen_ok,Sem.run_pure];refine hK _ _ (h w.heap.size _ _ ?_ (grownCap_ge ..) (grownCap_le_maxLen _ _ _ _ ht));have h2:=hO.drew.newBlk (.cells (bytesRow t (grownCap w t.size 0 e)) e ((bytesRow t (grownCap w t.size 0 e)).size,(bytesRow t (grownCap w t.size 0 e)).size+1));rw [show w.drew.heap.size=w.heap.size from rfl] at h2;refine h2.toImm (φ:=fun w=>ValsAt w _ (strCells t)) fun w' hb=>.inr ⟨_,0,rfl,fun i hi=>?_⟩
 have hb:w'.heap[w.heap.size]?=some (.cells (bytesRow t (grownCap w t.size 0 e)) e ((bytesRow t (grownCap w t.size 0 e)).size,(bytesRow t (grownCap w t.size 0 e)).size+1)):=hb;rw [cell_of_row _ _ _ _ _ _ hb];unfold bytesRow;unfold strCells at hi ⊢;rw [List.length_map] at hi;have hi2:i<t.data.size:=by simpa using hi
 rw [Nat.zero_add,Array.getElem?_append_left (by simpa using hi2),Array.getElem?_map,List.getElem_map];simp [Array.getElem?_eq_getElem hi2]
end
def zLZ (g n j:Nat):Value:=.slice (some ⟨g,96*j,none⟩) (min 96 (n-96*j)) (min 96 (n-96*j))
theorem zO9 (g n cap:Nat):Does Tryz.prog 157 #[.slice (some ⟨g,0,none⟩) n cap,.int .i64 96] []
 (fun x:Nat×Nat=>(.func (.func 221) #[] #[.pointer (some ⟨x.1,0,none⟩),.pointer (some ⟨x.2,0,none⟩)],[Var x.1 [.slice (some ⟨g,0,none⟩) n cap] 244,Var x.2 [.int .i64 96] 3])):=by
 intro S W w L0 hO;simp only [CA] at hO;go_enter Tryz.func157,Tryz.ntmps157;go_wp2_with (refine sq_ ?_;clear hO;(try clear hf);intro w9 hO hf);obtain ⟨b2,hg9⟩:=(hO.pick (r:=Var _ [.int .i64 96] 3) pk_).named;rw [←hg9];rw [←hg9] at hO;clear hg9;obtain ⟨b1,hg9⟩:=(hO.pick (r:=Var _ [.slice (some ⟨g,0,none⟩) n cap] 244) pk_).named;rw [←hg9];rw [←hg9] at hO;clear hg9;go_ret;refine ⟨(b1,b2),rfl,?_⟩;dsimp only;(try simp only [CA]);exact hO.cut sb_
theorem zPd (l bs bn g n cap:Nat) (hn:n≤cap) (hn2:n≤1000000) (hc:cap≤maxLen) {S:Nat→Prop} {W:World} (X:Nat→List Rs) (Rx:World→Prop)
 (hY:∀(j:Nat) (w:World),96*j<n→Own S W w (Var bs [.slice (some ⟨g,0,none⟩) n cap] 244::Var bn [.int .i64 96] 3::X j)→YieldAt Fence.wide 0 Tryz.prog l #[zLZ g n j] w fun e w'=>
  (e=.returned (.bool true)∧Own S W w' (Var bs [.slice (some ⟨g,0,none⟩) n cap] 244::Var bn [.int .i64 96] 3::X (j+1)))∨(e=.returned (.bool false)∧Rx w'))
 (w:World) (hO:Own S W w (Var bs [.slice (some ⟨g,0,none⟩) n cap] 244::Var bn [.int .i64 96] 3::X 0)) :
 Calls Tryz.prog 221 #[.func (.yield l) #[] #[],.pointer (some ⟨bs,0,none⟩),.pointer (some ⟨bn,0,none⟩)] w fun e w'=>
  (∃v,e=.returned v)∧(Own S W w' (Var bs [.slice (some ⟨g,0,none⟩) n cap] 244::Var bn [.int .i64 96] 3::X ((n+95) / 96))∨Rx w'):=by
 unfold maxLen at hc;refine callsIn_wide.1 (callsIn_of_wp (F:=Fence.wide) (n:=0) Tryz.func221 rfl trivial ?_ rfl);simp only [Tryz.ntmps221,List.size_toArray,List.length_cons,List.length_nil,Nat.reduceAdd,Nat.reduceSub,Array.replicate_succ,Array.replicate_zero,List.push_toArray,List.append_toArray,List.nil_append,List.cons_append]
 gi_wp2
 gi_loopw [4] (fun v wr=>∃j:Nat,v=.int .i64 (96*j:Nat)∧j≤(n+95) / 96∧Own S W wr (Var bs [.slice (some ⟨g,0,none⟩) n cap] 244::Var bn [.int .i64 96] 3::X j)) (fun v _=>n+96-(intOf v).toNat)
 case atStart=>exact ⟨0,rfl,by omega,hO⟩
 case round=>
  clear hO;obtain ⟨j,rfl,hj,hO⟩:=hrel;rename World=>w1
  (replace hf:=fa_ hO);by_cases hlt:96*j<n
  ·gi_wp2
   refine wpIn_wide.2 ?_;(refine rg_ hO ((1,0)::(1,1)::(0,2)::(0,3)::(1,4)::(1,5)::(0,6)::[]) ?_;clear hO;intro w9 hO;replace hf:=fa_ hO;(refine ss_ hO ?_;clear hO;(try clear hf);intro w9 hO hf));refine zAA ?_;have hE:(if ((n-96*j:Nat):Int)<96 then ((n-96*j:Nat):Int) else 96)=((min 96 (n-96*j):Nat):Int):=by split<;>omega
   have hE2:min (96:Int) ((n-96*j:Nat):Int)=((min 96 (n-96*j):Nat):Int):=by omega
   first | rw [hE] | rw [hE2]
   clear hE hE2;have hy0:=hY j _ hlt hO;unfold zLZ at hy0;obtain ⟨en,hen,he1,he2⟩:∃en,min 96 (n-96*j)=en∧96*j+en≤n∧(en=96∨96*j+en=n):=⟨_,rfl,by omega,by omega⟩
   rw [hen] at hy0 ⊢;obtain ⟨fn,tmps,assign,body,hy,hR⟩:=hy0;clear hen;(replace hf:=fa_ hO)
   gi_wp2
   refine ⟨rfl,hR.mono ?_⟩;rintro e w3 (⟨rfl,hO3⟩ | ⟨rfl,hr3⟩)
   ·clear hO hf;have hO:=hO3;clear hO3;(replace hf:=fa_ hO)
    gi_wp2
    go_roundw
    case rel=>exact ⟨j+1,by go_num,by omega,hO⟩
    case measure=>simp [intOf];omega
   ·gi_wp2
    refine bodyPost_ret (results_none rfl _ _ _) rfl ?_;exact ⟨⟨_,rfl⟩,.inr hr3⟩
  ·obtain rfl:j=(n+95) / 96:=by omega
   gi_wp2
   go_end0;exact ⟨⟨_,rfl⟩,.inl hO⟩
