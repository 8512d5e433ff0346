/- Texts Bsf, Dl, Put, PutR of this claim, laid together. -/
import Derived.Test.YtagcmjmcjpjihaaGreatDoorHC12
import Derived.Test.YtagcmjmcjpjihaaGreatDoorHC23
set_option linter.unusedVariables false
set_option linter.unusedSimpArgs false
set_option maxHeartbeats 8000000
set_option maxRecDepth 100000
namespace Go.Proofs.YtagcmjmcjpjihaaGreatDoor
open Go.RowKit
def cmpZ (a b:ByteArray):Int:=Lib.compareBytes a.data.toList b.data.toList
theorem cmpL:∀a b:List UInt8,(Op.bytesLess a b=true∧Lib.compareBytes a b=-1)∨(a=b∧Lib.compareBytes a b=0)∨(Op.bytesLess b a=true∧Lib.compareBytes a b=1)
 | [],[]=>.inr (.inl ⟨rfl,rfl⟩)
 | [],_::_=>.inl ⟨rfl,rfl⟩
 | _::_,[]=>.inr (.inr ⟨rfl,rfl⟩)
 | a::x,b::y=>by
  unfold Lib.compareBytes;by_cases h:a<b
  ·exact .inl ⟨by simp [Op.bytesLess,h],by rw [if_pos h]⟩
  ·by_cases h2:b<a
   ·exact .inr (.inr ⟨by simp [Op.bytesLess,h2],by rw [if_neg h,if_pos h2]⟩)
   ·obtain rfl:a=b:=by
     have h:¬a.toNat<b.toNat:=fun e=>h (UInt8.lt_iff_toNat_lt.2 e)
     have h2:¬b.toNat<a.toNat:=fun e=>h2 (UInt8.lt_iff_toNat_lt.2 e)
     exact UInt8.toNat_inj.1 (by omega)
    rw [if_neg h,if_neg h];rcases cmpL x y with ⟨k1,k2⟩ | ⟨k1,k2⟩ | ⟨k1,k2⟩
    ·exact .inl ⟨by simp [Op.bytesLess,k1],k2⟩
    ·exact .inr (.inl ⟨by rw [k1],k2⟩)
    ·exact .inr (.inr ⟨by simp [Op.bytesLess,k1],k2⟩)
theorem zKq (a b:ByteArray):(slt a b=true∧cmpZ a b=-1)∨(a=b∧cmpZ a b=0)∨(slt b a=true∧cmpZ a b=1):=by
 unfold cmpZ slt;rw [ByteArray.toList_eq,ByteArray.toList_eq];exact (cmpL a.data.toList b.data.toList).imp id (Or.imp (fun h=>⟨zBH (by rw [ByteArray.toList_eq,ByteArray.toList_eq];exact h.1),h.2⟩) id)
theorem zJc (a b:ByteArray):decide (cmpZ a b<0)=slt a b:=by
 rcases zKq a b with ⟨h1,h2⟩ | ⟨h1,h2⟩ | ⟨h1,h2⟩
 ·rw [h1,h2];rfl
 ·rw [h2,h1,zBw];rfl
 ·rw [h2,zBR h1];rfl
theorem zOL (a b:ByteArray):(cmpZ a b==0)=decide (a=b):=by
 rcases zKq a b with ⟨h1,h2⟩ | ⟨h1,h2⟩ | ⟨h1,h2⟩
 ·rw [h2,decide_eq_false (zBr h1)];rfl
 ·rw [h2,decide_eq_true h1];rfl
 ·rw [h2,decide_eq_false (zBr h1).symm];rfl
theorem zDb {w w':World} {a:Option Addr} {xs:List Value} (h:ValsAt w a xs) (hb:∀b,b<w.heap.size→w'.heap[b]?=w.heap[b]?):ValsAt w' a xs:=
 h.imp id fun ⟨b,off,ha,hc⟩=>⟨b,off,ha,fun i hi=>by
  have h1:=hc i hi;have hl:b<w.heap.size:=block_lt_of_cell h1;rw [World.cell?_of_block (w:=w) (hb _ hl)];exact h1⟩
theorem zGM {w:World} {a:Option Addr} {xs:List Value} (S:Nat→Prop) (h:ValsAt w a xs):Own S w w [.imm fun w=>ValsAt w a xs]:=Own.base w S fun _ hw'=>zDb h hw'
def isAt (l:List Ch) (k:ByteArray):Bool:=(zCS l k).isSome
theorem Ups.isAt_at {l:List Ch} {k:ByteArray} (h:Ups l) (hi:idxC l k<l.length):isAt l k=decide (l[idxC l k].key=k):=by
 unfold isAt;by_cases he:l[idxC l k].key=k
 ·rw [h.find_yes hi he,decide_eq_true he];rfl
 ·rw [h.find_no (fun _=>he),decide_eq_false he];rfl
theorem Ups.isAt_end {l:List Ch} {k:ByteArray} (h:Ups l) (hi:l.length≤idxC l k):isAt l k=false:=by
 unfold isAt;rw [h.find_no (fun hi'=>by omega)];rfl
theorem zIm (x:Ch) (k:ByteArray) (w:World):Calls Tryz.prog 244 #[x.v,.string k] w fun e w'=>e=.returned (.int .i64 (cmpZ x.key k))∧Ext w w':=by
 unfold Ch.v;have hO:=Own.start w (fun _=>False);have hc:=fun w=>Tryz.strings_Compare x.key k w
 rw [show Lib.compareBytes x.key.data.toList k.data.toList=cmpZ x.key k from rfl] at hc;go_enter Tryz.func244,Tryz.ntmps244;go_wp2_with (first|(go_at_call 165;(with_reducible apply Calls.mono (hc _);rintro e8 w8 ⟨rfl,rfl⟩;dsimp only))|(refine sq_ ?_;clear hO;(try clear hf);intro w9 hO hf));go_ret;exact ⟨rfl,hO.toExt⟩
theorem zHb (x:Ch) (k:ByteArray) (w:World):Calls Tryz.prog 197 #[x.v,.string k] w fun e w'=>e=.returned (.int .i64 (cmpZ x.key k))∧Ext w w':=by
 unfold Ch.v;have hO:=Own.start w (fun _=>False);have hc:=fun w=>Tryz.strings_Compare x.key k w
 rw [show Lib.compareBytes x.key.data.toList k.data.toList=cmpZ x.key k from rfl] at hc;go_enter Tryz.func197,Tryz.ntmps197;go_wp2_with (first|(go_at_call 165;(with_reducible apply Calls.mono (hc _);rintro e8 w8 ⟨rfl,rfl⟩;dsimp only))|(refine sq_ ?_;clear hO;(try clear hf);intro w9 hO hf));go_ret;exact ⟨rfl,hO.toExt⟩
theorem zPS (a:Option Addr) (n c:Nat) (l:List Ch) (k:ByteArray) (w:World) (hl:l.length=n) (hn:n≤1000) (hA:ChAt w a l) (hU:Ups l) :
 Calls Tryz.prog 196 #[.slice a n c,.string k,.func (.func 244) #[] #[]] w fun e w'=>e=.returned (.tuple #[.int .i64 (idxC l k),.bool (isAt l k)])∧Ext w w':=by
 have hO:=zGM (fun _=>False) hA;(replace hf:=fa_ hO);go_enter Tryz.func196,Tryz.ntmps196;go_wp2_with (refine sq_ ?_;clear hO hf;intro w9 hO hf);go_loopw [9,10,11] (fun v9 v10 v11 wr=>∃i j:Nat,v9=.int .i64 i∧v10=.int .i64 j∧i≤idxC l k∧idxC l k≤j∧j≤n∧Own (fun _=>False) w wr [.imm fun w=>ValsAt w a (chs l)]) (fun v9 v10 _ _=>(intOf v10).toNat-(intOf v9).toNat)
 case atStart=>exact ⟨0,n,rfl,rfl,by omega,hl ▸ zHB l k,by omega,hO⟩
 case round=>
  obtain ⟨i,j,rfl,rfl,h1,h2,h3,hO⟩:=hrel;rename World=>w0
  (replace hf:=fa_ hO);by_cases hlt:i<j
  ·have hm:(i+j) / 2<l.length:=by omega
   have hlow:=hU.at_low k hm;obtain ⟨b,off,rfl⟩:=ChAt.some (a:=a) hf (by omega);have hc:=ChAt.at (b:=b) (off:=off) hf hm;rw [←zJc] at hlow;obtain ⟨c0,c1,c2⟩:=hc;have hgx:=zIm l[(i+j) / 2] k;generalize hx:l[(i+j) / 2]=x at *;unfold Ch.v at hgx;by_cases hk:(i+j) / 2<idxC l k
   ·have hz:cmpZ x.key k<0:=of_decide_eq_true (by rw [hlow,decide_eq_true hk]);clear hlow;go_wp2_with (first|(go_at_call 244;(with_reducible apply Calls.mono (hgx _);refine cu_ ?_;clear hO;(try clear hf);intro w8 hO hf))|(refine sq_ ?_;clear hO;(try clear hf);intro w9 hO hf));exact ⟨⟨(i+j) / 2+1,j,by go_num,rfl,by omega,h2,h3,hO⟩,by simp [intOf];omega⟩
   ·have hz:¬cmpZ x.key k<0:=of_decide_eq_false (by rw [hlow,decide_eq_false hk]);clear hlow;go_wp2_with (first|(go_at_call 244;(with_reducible apply Calls.mono (hgx _);refine cu_ ?_;clear hO;(try clear hf);intro w8 hO hf))|(refine sq_ ?_;clear hO;(try clear hf);intro w9 hO hf));exact ⟨⟨i,(i+j) / 2,rfl,by go_num,h1,by omega,by omega,hO⟩,by simp [intOf];omega⟩
  ·obtain rfl:i=idxC l k:=by omega
   obtain rfl:j=idxC l k:=by omega
   by_cases hi:idxC l k<l.length
   ·obtain ⟨b,off,rfl⟩:=ChAt.some (a:=a) hf (by omega);obtain ⟨c0,c1,c2⟩:=ChAt.at (b:=b) (off:=off) hf hi;have hgx:=zIm l[idxC l k] k;have he:=hU.isAt_at hi;rw [←zOL] at he;generalize hx:l[idxC l k]=x at *;unfold Ch.v at hgx;go_wp2_with (first|(go_at_call 244;(with_reducible apply Calls.mono (hgx _);refine cu_ ?_;clear hO;(try clear hf);intro w8 hO hf))|(refine sq_ ?_;clear hO;(try clear hf);intro w9 hO hf));go_ret2;exact ⟨by rw [he];rfl,hO.toExt⟩
   ·have he:=hU.isAt_end (k:=k) (by omega);go_wp2_with (refine sq_ ?_;clear hO;(try clear hf);intro w9 hO hf);go_ret2;exact ⟨by rw [he];rfl,hO.toExt⟩
theorem zNp (a:Option Addr) (n c:Nat) (l:List Ch) (k:ByteArray) (w:World) (hl:l.length=n) (hn:n≤1000) (hA:ChAt w a l) (hU:Ups l) :
 Calls Tryz.prog 196 #[.slice a n c,.string k,.func (.func 197) #[] #[]] w fun e w'=>e=.returned (.tuple #[.int .i64 (idxC l k),.bool (isAt l k)])∧Ext w w':=by
 have hO:=zGM (fun _=>False) hA;(replace hf:=fa_ hO);go_enter Tryz.func196,Tryz.ntmps196;go_wp2_with (refine sq_ ?_;clear hO hf;intro w9 hO hf);go_loopw [9,10,11] (fun v9 v10 v11 wr=>∃i j:Nat,v9=.int .i64 i∧v10=.int .i64 j∧i≤idxC l k∧idxC l k≤j∧j≤n∧Own (fun _=>False) w wr [.imm fun w=>ValsAt w a (chs l)]) (fun v9 v10 _ _=>(intOf v10).toNat-(intOf v9).toNat)
 case atStart=>exact ⟨0,n,rfl,rfl,by omega,hl ▸ zHB l k,by omega,hO⟩
 case round=>
  obtain ⟨i,j,rfl,rfl,h1,h2,h3,hO⟩:=hrel;rename World=>w0
  (replace hf:=fa_ hO);by_cases hlt:i<j
  ·have hm:(i+j) / 2<l.length:=by omega
   have hlow:=hU.at_low k hm;obtain ⟨b,off,rfl⟩:=ChAt.some (a:=a) hf (by omega);have hc:=ChAt.at (b:=b) (off:=off) hf hm;rw [←zJc] at hlow;obtain ⟨c0,c1,c2⟩:=hc;have hgx:=zHb l[(i+j) / 2] k;generalize hx:l[(i+j) / 2]=x at *;unfold Ch.v at hgx;by_cases hk:(i+j) / 2<idxC l k
   ·have hz:cmpZ x.key k<0:=of_decide_eq_true (by rw [hlow,decide_eq_true hk]);clear hlow;go_wp2_with (first|(go_at_call 197;(with_reducible apply Calls.mono (hgx _);refine cu_ ?_;clear hO;(try clear hf);intro w8 hO hf))|(refine sq_ ?_;clear hO;(try clear hf);intro w9 hO hf));exact ⟨⟨(i+j) / 2+1,j,by go_num,rfl,by omega,h2,h3,hO⟩,by simp [intOf];omega⟩
   ·have hz:¬cmpZ x.key k<0:=of_decide_eq_false (by rw [hlow,decide_eq_false hk]);clear hlow;go_wp2_with (first|(go_at_call 197;(with_reducible apply Calls.mono (hgx _);refine cu_ ?_;clear hO;(try clear hf);intro w8 hO hf))|(refine sq_ ?_;clear hO;(try clear hf);intro w9 hO hf));exact ⟨⟨i,(i+j) / 2,rfl,by go_num,h1,by omega,by omega,hO⟩,by simp [intOf];omega⟩
  ·obtain rfl:i=idxC l k:=by omega
   obtain rfl:j=idxC l k:=by omega
   by_cases hi:idxC l k<l.length
   ·obtain ⟨b,off,rfl⟩:=ChAt.some (a:=a) hf (by omega);obtain ⟨c0,c1,c2⟩:=ChAt.at (b:=b) (off:=off) hf hi;have hgx:=zHb l[idxC l k] k;have he:=hU.isAt_at hi;rw [←zOL] at he;generalize hx:l[idxC l k]=x at *;unfold Ch.v at hgx;go_wp2_with (first|(go_at_call 197;(with_reducible apply Calls.mono (hgx _);refine cu_ ?_;clear hO;(try clear hf);intro w8 hO hf))|(refine sq_ ?_;clear hO;(try clear hf);intro w9 hO hf));go_ret2;exact ⟨by rw [he];rfl,hO.toExt⟩
   ·have he:=hU.isAt_end (k:=k) (by omega);go_wp2_with (refine sq_ ?_;clear hO;(try clear hf);intro w9 hO hf);go_ret2;exact ⟨by rw [he];rfl,hO.toExt⟩
abbrev DV:=Option Addr×Nat×List Ch
def dv (d:DV):Value:=.slice d.1 d.2.2.length d.2.1
def DsAt (w:World) (D:List DV):Prop:=∀d∈D,ValsAt w d.1 (chs d.2.2)
def dss (D:List DV):List (List Ch):=D.map fun d=>d.2.2
def DLAt (w:World) (a:Option Addr) (D:List DV):Prop:=ValsAt w a (D.map dv)∧DsAt w D
theorem zEY (a:Option Addr) (n c:Nat) (l:List Ch) (hl:l.length=n) (hn:n≤1000) {φ:World→Prop} (hφ:∀w,φ w→ChAt w a l) :
 Does Tryz.prog 139 #[.slice a n c] [.imm φ] (fun x:Option Addr×Nat=>(.slice x.1 n x.2,[Row2 142 3 x.1 n x.2 (chs l),.imm φ])):=by
 obtain ⟨iC,hiC,hzC,hsC,hbC⟩:=info_parts Tryz.infoCh;intro S W w L0 hO;simp only [CA] at hO;(replace hf:=fa_ hO);have hc:=hφ _ hf.1;have hu:=Tryz.underlying36;cases a with
 | none=>
  have h0:l=[]:=by
   cases l with
   | nil=>rfl
   | cons y l=>
    obtain ⟨b,off,h⟩:=ChAt.some hc (by simp);cases h
  subst h0;have h0:n=0:=by rw [←hl];rfl
  subst h0;go_enter Tryz.func139,Tryz.ntmps139;go_wp2_with (refine sq_ ?_;clear hO;(try clear hf);intro w9 hO hf);go_ret;refine ⟨(none,0),rfl,?_⟩;exact hO.nil _ _
 | some ad=>
  subst hl;go_enter Tryz.func139,Tryz.ntmps139;go_wp2_with (first|(at_builtin;(have hO9:=hO.pick (r:=Var _ [] 142) pk_;replace hO:=Own.varRow (n:=0) (size:=3) rfl (by simp [maxLen]) hO9;clear hO9;refine zDA hO pk_ rfl (.tmp 5) (.tmp 6) 36 rfl iC _ 40 Tryz.underlying36 hiC hzC hsC hbC rfl (by omega) rfl (some ad) l.length _ (chs l) rfl (zCG l) (hφ _ (hO.immOf pk_)) (zJv l) (by unfold maxLen;omega) (by omega) ?_;clear hO;intro ka9 kc9 w9 hO;(replace hf:=fa_ hO)))|(refine sq_ ?_;clear hO;(try clear hf);intro w9 hO hf));go_ret;refine ⟨(ka9,kc9),by simp,?_⟩;simp only [Nat.zero_add,List.nil_append] at hO;exact hO.give tk_ kp_
theorem zM2 (a:Option Addr) (n c g vc i:Nat) (l:List Ch) (x:Ch) (hl:l.length=n) (hn:n≤1000) (hi:i≤n) :
 Does Tryz.prog 245 #[.slice a n c,.int .i64 i,.slice (some ⟨g,0,none⟩) 1 vc] [Row2 142 3 a n c (chs l),Var g x.cells 142]
  (fun p:Option Addr×Nat=>(.slice p.1 (n+1) p.2,[Row2 142 3 p.1 (n+1) p.2 (chs (zC6 l i x))])):=by
 intro S W w L0 hO;have hO1:=hO;simp only [List.cons_append,List.nil_append] at hO1;obtain ⟨_,h2,h3⟩:=hO1.rowLen (.here _ _);unfold maxLen at h3;rcases Nat.eq_or_lt_of_le hi with rfl | hlt
 ·exact zNP a i c g vc l x hl hn h2 S W w L0 hO
 ·obtain ⟨g0,rfl,_⟩:=hO1.rowAt (.here _ _) (by omega);by_cases hc:c≤n
  ·exact zLw g0 n c g vc i l x hl hn hlt h2 hc S W w L0 hO
  ·exact zK8 g0 n c g vc i l x hl hn hlt (by omega) h3 S W w L0 hO
theorem Own.rowCh {S:Nat→Prop} {W w:World} {l l':List Rs} {a:Option Addr} {n c:Nat} {cs:List Ch} (h:Own S W w l) (hp:Pick l (Row2 142 3 a n c (chs cs)) l'):ChAt w a cs:=h.vals hp
theorem zTH (l:List Ch) (i:Nat) (x:Ch) (hi:i<l.length):chs (l.set i x)=(((chs l).set (i*3) (.string x.key)).set (i*3+1) (.string x.val)).set (i*3+2) (.bool x.gone):=by
 induction l generalizing i with
 | nil=>simp at hi
 | cons y l ih=>
  cases i with
  | zero=>rfl
  | succ i=>
   rw [List.set_cons_succ,show (i+1)*3=i*3+3 from by omega];show y.cells++chs (l.set i x)=(((y.cells++chs l).set (i*3+3) _).set (i*3+3+1) _).set (i*3+3+2) _;rw [ih i (by simpa using hi)];rfl
theorem zRL (a:Option Addr) (n c:Nat) (l:List Ch) (x:Ch) (hl:l.length=n) (hn:n≤900) (hU:Ups l) {φ:World→Prop} (hφ:∀w,φ w→ChAt w a l) :
 Does Tryz.prog 200 #[.slice a n c,x.v] [.imm φ] (fun p:Option Addr×Nat=>(.slice p.1 (putC l x).length p.2,[Row2 142 3 p.1 (putC l x).length p.2 (chs (putC l x)),.imm φ])):=by
 have HC:=zEY a n c l hl (by omega) hφ;have hle:=zHB l x.key;have HB:=fun a c w hA=>zPS a n c l x.key w hl (by omega) hA hU
 by_cases hfound:∃hi:idxC l x.key<l.length,l[idxC l x.key].key=x.key
 ·obtain ⟨hi,hk⟩:=hfound;rw [hU.put_set hi hk,List.length_set,zTH _ _ _ hi,hl];rw [hU.isAt_at hi,decide_eq_true hk] at HB;have hi0:=hi;rw [hl] at hle hi;generalize idxC l x.key=i at *;clear hk;intro S W w L0 hO;simp only [CA] at hO;(replace hf:=fa_ hO);unfold Ch.v;go_enter Tryz.func200,Tryz.ntmps200;go_wp2_with (first|(go_at_call 139;(with_reducible apply Does.use hO (HC);exact tk_;refine du_ ?_;clear hO hf;intro x9 w9 hO hf;obtain ⟨ca,cc⟩:=x9;dsimp only at hO ⊢;(replace hf:=fa_ hO)))|(go_at_call 196;(have hA8:=hO.rowCh (a:=ca) (n:=n) (c:=cc) (cs:=l) pk_;with_reducible apply Calls.mono (HB _ _ _ hA8);clear hA8;refine cu_ ?_;clear hO hf;intro w8 hO hf;obtain ⟨g0,rfl,hq⟩:=hO.rowAt (e:=142) (size:=3) (a:=ca) (n:=n) (cap:=cc) (xs:=chs l) pk_ (by omega);obtain ⟨c0,c1,c2⟩:=ChAt.at (b:=g0) (off:=0) (hO.rowCh (a:=some ⟨g0,0,none⟩) (n:=n) (c:=cc) (cs:=l) pk_) hi0;simp only [Nat.zero_add] at c0 c1 c2))|(refine sq_ ?_;clear hO hf;intro w9 hO hf));go_ret;refine ⟨(some ⟨g0,0,none⟩,cc),rfl,?_⟩;replace hO:=Own.setRow (i:=i*3+2) (v:=.bool x.gone) (Own.setRow (i:=i*3+1) (v:=.string x.val) (Own.setRow (i:=i*3) (v:=.string x.key) hO (Put.here _ _ _) (by rw [zCG];omega)) (Put.here _ _ _) (by rw [List.length_set,zCG];omega)) (Put.here _ _ _) (by rw [List.length_set,List.length_set,zCG];omega);exact hO.give tk_ kp_
 ·have hno:∀(hi:idxC l x.key<l.length),l[idxC l x.key].key≠x.key:=fun hi hk=>hfound ⟨hi,hk⟩
  rw [hU.put_ins hno,zLX _ _ _ hle,hl];rw [show isAt l x.key=false from by unfold isAt;rw [hU.find_no hno];rfl] at HB;rw [hl] at hle;clear hfound hno;generalize idxC l x.key=i at *;have HI:∀a c g vc,Does Tryz.prog 245 #[.slice a n c,.int .i64 i,.slice (some ⟨g,0,none⟩) 1 vc] [Row2 142 3 a n c (chs l),Var g [.string x.key,.string x.val,.bool x.gone] 142]
   (fun p:Option Addr×Nat=>(.slice p.1 (n+1) p.2,[Row2 142 3 p.1 (n+1) p.2 (chs (zC6 l i x))])):=fun a c g vc=>zM2 a n c g vc i l x hl (by omega) hle
  intro S W w L0 hO;simp only [CA] at hO;(replace hf:=fa_ hO);unfold Ch.v;go_enter Tryz.func200,Tryz.ntmps200;go_wp2_with (first|(go_at_call 139;(with_reducible apply Does.use hO (HC);exact tk_;refine du_ ?_;clear hO hf;intro x9 w9 hO hf;obtain ⟨ca,cc⟩:=x9;dsimp only at hO ⊢;(replace hf:=fa_ hO)))|(go_at_call 196;(have hA8:=hO.rowCh (a:=ca) (n:=n) (c:=cc) (cs:=l) pk_;with_reducible apply Calls.mono (HB _ _ _ hA8);clear hA8;refine cu_ ?_;clear hO hf;intro w8 hO hf))|(go_at_call 245;(with_reducible apply Does.use hO (HI _ _ _ _);exact tk_;refine du_ ?_;clear hO hf;intro x9 w9 hO hf;obtain ⟨da,dc⟩:=x9;dsimp only at hO ⊢;(replace hf:=fa_ hO)))|(refine sq_ ?_;clear hO hf;intro w9 hO hf));go_ret;refine ⟨(da,dc),rfl,?_⟩;exact hO.give tk_ kp_
theorem zSF (a:Option Addr) (n c:Nat) (l:List Ch) (k:ByteArray) (w:World) (hl:l.length=n) (hn:n≤1000) (hA:ChAt w a l) (hU:Ups l) :
 Calls Tryz.prog 112 #[.slice a n c,.string k] w fun e w'=>e=.returned (.tuple #[((zCS l k).getD ⟨⟨#[]⟩,⟨#[]⟩,false⟩).v,.bool (zCS l k).isSome])∧Ext w w':=by
 have hO:=zGM (fun _=>False) hA;(replace hf:=fa_ hO);have hle:=zHB l k;have HB:=fun w hA=>zNp a n c l k w hl hn hA hU
 by_cases hfound:∃hi:idxC l k<l.length,l[idxC l k].key=k
 ·obtain ⟨hi,hk⟩:=hfound;rw [hU.find_yes hi hk];rw [hU.isAt_at hi,decide_eq_true hk] at HB;have hi0:=hi;rw [hl] at hle hi;generalize idxC l k=i at *;clear hk;obtain ⟨b,off,rfl⟩:=ChAt.some (a:=a) hA (by omega);have hcells:=fun w (h:ValsAt w (some ⟨b,off,none⟩) (chs l))=>ChAt.at (w:=w) (l:=l) (b:=b) (off:=off) h hi0
  show Calls _ _ _ _ fun e w'=>e=.returned (.tuple #[l[i].v,.bool true])∧_
  generalize l[i]=x at *;unfold Ch.v;go_enter Tryz.func112,Tryz.ntmps112;go_wp2_with (first|(go_at_call 196;(have hA8:ChAt _ (some ⟨b,off,none⟩) l:=Own.immOf (φ:=fun w=>ValsAt w (some ⟨b,off,none⟩) (chs l)) hO pk_;with_reducible apply Calls.mono (HB _ hA8);clear hA8;refine cu_ ?_;clear hO;(try clear hf);intro w8 hO hf;obtain ⟨c0,c1,c2⟩:=hcells _ (Own.immOf (φ:=fun w=>ValsAt w (some ⟨b,off,none⟩) (chs l)) hO pk_)))|(refine sq_ ?_;clear hO;(try clear hf);intro w9 hO hf));refine zAD rfl fun K hK=>?_;simp [results,Tryz.results112,go_sem,hf];exact hK _ ⟨rfl,hO.toExt⟩
 ·have hno:∀(hi:idxC l k<l.length),l[idxC l k].key≠k:=fun hi hk=>hfound ⟨hi,hk⟩
  rw [hU.find_no hno];rw [show isAt l k=false from by unfold isAt;rw [hU.find_no hno];rfl] at HB;clear hfound hno;generalize idxC l k=i at *;show Calls _ _ _ _ fun e w'=>e=.returned (.tuple #[.agg #[.string ⟨#[]⟩,.string ⟨#[]⟩,.bool false],.bool false])∧_
  go_enter Tryz.func112,Tryz.ntmps112;go_wp2_with (first|(go_at_call 196;(have hA8:ChAt _ a l:=Own.immOf (φ:=fun w=>ValsAt w a (chs l)) hO pk_;with_reducible apply Calls.mono (HB _ hA8);clear hA8;refine cu_ ?_;clear hO;(try clear hf);intro w8 hO hf))|(refine sq_ ?_;clear hO;(try clear hf);intro w9 hO hf));refine zAD rfl fun K hK=>?_;simp [results,Tryz.results112,go_sem,hf];exact hK _ ⟨rfl,hO.toExt⟩
