/- Texts View, Hs, View2, View3, View4, ScanL, RView, View6, SlF of this claim, laid together. -/
import Derived.Test.YtagcmjmcjpjihaaGreatDoorHC11
import Derived.Test.YtagcmjmcjpjihaaGreatDoorHC31
set_option linter.unusedVariables false
set_option linter.unusedSimpArgs false
set_option maxHeartbeats 8000000
set_option maxRecDepth 100000
namespace Go.Proofs.YtagcmjmcjpjihaaGreatDoor
open Go.RowKit
def spC (s:Sp):List Value:=[.string s.lo,.string s.hi]
def eqS (x s:Sp):Bool:=decide (x.lo=s.lo)&&decide (x.hi=s.hi)
def hasS (R:List Sp) (s:Sp):Bool:=R.any fun x=>eqS x s
theorem zFu {w:World} {l:List Sp} {b off i:Nat} (h:ValsAt w (some ⟨b,off,none⟩) (l.flatMap spC)) (hi:i<l.length):w.cell? ⟨b,off+i*2,none⟩=some (.string l[i].lo)∧w.cell? ⟨b,off+i*2+1,none⟩=some (.string l[i].hi):=by
 have g0:=zAj spC 2 (fun _=>rfl) l i hi 0 (by omega);have g1:=zAj spC 2 (fun _=>rfl) l i hi 1 (by omega);exact ⟨ValsAt.get h g0,by rw [Nat.add_assoc];exact ValsAt.get h g1⟩
theorem zG8 {w:World} {l:List Sp} {a:Option Addr} {i:Nat} (h:ValsAt w a (l.flatMap spC)) (hi:i<l.length):∃b off,a=some ⟨b,off,none⟩:=
 ValsAt.some h (zAj spC 2 (fun _=>rfl) l i hi 0 (by omega))
theorem zPD (a:Option Addr) (n c:Nat) (R:List Sp) (s:Sp) (w:World) (hl:R.length=n) (hn:n≤100000) (hA:ValsAt w a (R.flatMap spC)) :
 Calls Tryz.prog 242 #[.slice a n c,.agg #[.string s.lo,.string s.hi]] w fun e w'=>(∃r:Int,e=.returned (.int .i64 r)∧decide (0≤r)=hasS R s)∧Ext w w':=by
 have hO:Own (fun _=>False) w w [.imm fun w=>ValsAt w a (R.flatMap spC)]:=Own.base w _ fun _ hw'=>zDb hA hw'
 obtain ⟨lo,hi⟩:=s;(replace hf:=fa_ hO);go_enter Tryz.func242,Tryz.ntmps242;go_wp2_with (refine sq_ ?_;clear hO;(try clear hf);intro w9 hO hf);obtain ⟨g,hg9⟩:=(hO.pick (r:=Var _ [.string lo,.string hi] 98) pk_).named;rw [←hg9];rw [←hg9] at hO;clear hg9;have hO9:=hO;clear hO hf;go_loopw [8] (fun v wr=>∃k:Nat,v=.int .i64 k∧k≤n∧Hid (hasS (R.drop k) ⟨lo,hi⟩=hasS R ⟨lo,hi⟩)∧Own (fun _=>False) w wr [Var g [.string lo,.string hi] 98,.imm fun w=>ValsAt w a (R.flatMap spC)]) (fun v _=>n-(intOf v).toNat)
 case atStart=>exact ⟨0,rfl,by omega,Lib.hid rfl,hO9.cut sb_⟩
 case round=>
  clear hO9;obtain ⟨k,rfl,hk,HI,hO⟩:=hrel;rename World=>w0
  (replace hf:=fa_ hO);by_cases hlt:k<n
  ·have hk2:k<R.length:=by omega
   obtain ⟨b,off,rfl⟩:=zG8 (Own.immOf (φ:=fun w=>ValsAt w a (R.flatMap spC)) hO pk_) hk2;have hcy:=fun w (h:ValsAt w (some ⟨b,off,none⟩) (R.flatMap spC))=>zFu h hk2
   have hd:hasS (R.drop k) ⟨lo,hi⟩=(eqS R[k] ⟨lo,hi⟩||hasS (R.drop (k+1)) ⟨lo,hi⟩):=by rw [List.drop_eq_getElem_cons hk2];unfold hasS;rw [List.any_cons]
   have HD:=Lib.hid hd;clear hd;generalize R[k]=x at *;obtain ⟨xl,xh⟩:=x;dsimp only at hcy HD;by_cases hx:xl=lo∧xh=hi
   ·obtain ⟨rfl,rfl⟩:=hx;have e1:=Lib.hid (show hasS R ⟨xl,xh⟩=true by rw [←HI.out,HD.out];unfold eqS;simp);clear HI HD;go_wp2_with (refine sq_ ?_;clear hO;(try clear hf);intro w9 hO hf);(refine rg_ hO ((1,0)::(0,1)::(0,2)::(0,3)::(1,4)::(0,5)::[]) ?_;clear hO;intro w9 hO;replace hf:=fa_ hO;(repeat (first|(apply zAG _ rfl rfl rfl;focus (intro w8 K8 hK8;(repeat (first | go_skip | go_guarded | go_step));exact hK8))|(apply zAJ _ rfl rfl rfl;focus (intro w8 hx8 K8 hK8;have hO:=hO.ext hx8;(replace hf:=fa_ hO);obtain ⟨c0,c1⟩:=hcy _ (Own.immOf (φ:=fun w=>ValsAt w (some ⟨b,off,none⟩) (R.flatMap spC)) hO pk_);(repeat (first | go_skip | go_guarded | go_step));exact hK8))|(apply zAL _ rfl;(focus (intro w8 hx8 K8 hK8;have hO:=hO.ext hx8;(replace hf:=fa_ hO);(repeat (first | go_skip | go_guarded | go_step | fail));(first | exact xt_ | exact hK8 _ xt_)));(focus (exact rfl));intro w8 hx8;replace hO:=hO.ext hx8;clear hx8;(replace hf:=fa_ hO)))));refine zAA ?_;go_wp2_with (refine sq_ ?_;clear hO;(try clear hf);intro w9 hO hf);all_goals try (exfalso;simp_all;done)
    go_ret;refine ⟨⟨_,rfl,?_⟩,hO.toExt⟩;rw [e1.out];exact decide_eq_true (by omega)
   ·have e1:=Lib.hid (show hasS (R.drop (k+1)) ⟨lo,hi⟩=hasS R ⟨lo,hi⟩ by
     rw [←HI.out,HD.out];have:eqS ⟨xl,xh⟩ ⟨lo,hi⟩=false:=by
      unfold eqS;by_cases h1:xl=lo
      ·have h2:¬xh=hi:=fun h2=>hx ⟨h1,h2⟩
       simp [h2]
      ·simp [h1]
     rw [this];rfl)
    clear HI HD;by_cases h1:xl=lo
    ·subst h1;have h2:¬hi.toList=xh.toList:=fun h=>hx ⟨rfl,(zBH h).symm⟩
     have h3:¬xh.toList=hi.toList:=fun h=>h2 h.symm
     have h4:(hi.toList==xh.toList)=false:=by simpa using h2
     have h5:¬hi=xh:=fun h=>h2 (by rw [h])
     clear hx;go_wp2_with (refine sq_ ?_;clear hO;(try clear hf);intro w9 hO hf);(refine rg_ hO ((1,0)::(0,1)::(0,2)::(0,3)::(1,4)::(0,5)::[]) ?_;clear hO;intro w9 hO;replace hf:=fa_ hO;(repeat (first|(apply zAG _ rfl rfl rfl;focus (intro w8 K8 hK8;(repeat (first | go_skip | go_guarded | go_step));exact hK8))|(apply zAJ _ rfl rfl rfl;focus (intro w8 hx8 K8 hK8;have hO:=hO.ext hx8;(replace hf:=fa_ hO);obtain ⟨c0,c1⟩:=hcy _ (Own.immOf (φ:=fun w=>ValsAt w (some ⟨b,off,none⟩) (R.flatMap spC)) hO pk_);(repeat (first | go_skip | go_guarded | go_step));exact hK8))|(apply zAL _ rfl;(focus (intro w8 hx8 K8 hK8;have hO:=hO.ext hx8;(replace hf:=fa_ hO);(repeat (first | go_skip | go_guarded | go_step | fail));(first | exact xt_ | exact hK8 _ xt_)));(focus (exact rfl));intro w8 hx8;replace hO:=hO.ext hx8;clear hx8;(replace hf:=fa_ hO)))));refine zAA ?_;go_wp2_with (refine sq_ ?_;clear hO;(try clear hf);intro w9 hO hf);exact ⟨⟨k+1,by go_num,by omega,e1,hO.cut sb_⟩,by simp [intOf];omega⟩
    ·have h2:¬lo.toList=xl.toList:=fun h=>h1 (zBH h).symm
     have h3:¬xl.toList=lo.toList:=fun h=>h2 h.symm
     have h4:(lo.toList==xl.toList)=false:=by simpa using h2
     have h5:¬lo=xl:=fun h=>h2 (by rw [h])
     clear hx;go_wp2_with (refine sq_ ?_;clear hO;(try clear hf);intro w9 hO hf);(refine rg_ hO ((1,0)::(0,1)::(0,2)::(0,3)::(1,4)::(0,5)::[]) ?_;clear hO;intro w9 hO;replace hf:=fa_ hO;(repeat (first|(apply zAG _ rfl rfl rfl;focus (intro w8 K8 hK8;(repeat (first | go_skip | go_guarded | go_step));exact hK8))|(apply zAJ _ rfl rfl rfl;focus (intro w8 hx8 K8 hK8;have hO:=hO.ext hx8;(replace hf:=fa_ hO);obtain ⟨c0,c1⟩:=hcy _ (Own.immOf (φ:=fun w=>ValsAt w (some ⟨b,off,none⟩) (R.flatMap spC)) hO pk_);(repeat (first | go_skip | go_guarded | go_step));exact hK8))|(apply zAL _ rfl;(focus (intro w8 hx8 K8 hK8;have hO:=hO.ext hx8;(replace hf:=fa_ hO);(repeat (first | go_skip | go_guarded | go_step | fail));(first | exact xt_ | exact hK8 _ xt_)));(focus (exact rfl));intro w8 hx8;replace hO:=hO.ext hx8;clear hx8;(replace hf:=fa_ hO)))));refine zAA ?_;go_wp2_with (refine sq_ ?_;clear hO;(try clear hf);intro w9 hO hf);exact ⟨⟨k+1,by go_num,by omega,e1,hO.cut sb_⟩,by simp [intOf];omega⟩
  ·have e1:=HI.out;rw [List.drop_of_length_le (by omega)] at e1;have e2:=Lib.hid (e1.symm.trans (show hasS [] ⟨lo,hi⟩=false from rfl));clear e1 HI;go_wp2_with (refine sq_ ?_;clear hO;(try clear hf);intro w9 hO hf);go_ret;exact ⟨⟨_,rfl,by rw [e2.out];rfl⟩,hO.toExt⟩
theorem zK7 (a:Option Addr) (n c:Nat) (R:List Sp) (s:Sp) (w:World) (hl:R.length=n) (hn:n≤100000) (hA:ValsAt w a (R.flatMap spC)) :
 Calls Tryz.prog 198 #[.slice a n c,.agg #[.string s.lo,.string s.hi]] w fun e w'=>e=.returned (.bool (hasS R s))∧Ext w w':=by
 have hO:Own (fun _=>False) w w [.imm fun w=>ValsAt w a (R.flatMap spC)]:=Own.base w _ fun _ hw'=>zDb hA hw'
 have HI:=fun w h=>zPD a n c R s w hl hn h
 obtain ⟨lo,hi⟩:=s;dsimp only at HI;(replace hf:=fa_ hO);go_enter Tryz.func198,Tryz.ntmps198;go_wp2_with (first|(go_at_call 242;(with_reducible apply Calls.mono (HI _ (Own.immOf (φ:=fun w=>ValsAt w a (R.flatMap spC)) hO pk_));rintro e8 w8 ⟨⟨r,rfl,hr⟩,hx8⟩;replace hO:=hO.ext hx8;clear hx8;replace hr:=Lib.hid hr;dsimp only;(replace hf:=fa_ hO)))|(refine sq_ ?_;clear hO;(try clear hf);intro w9 hO hf));go_ret;rw [←hr.out];exact ⟨rfl,hO.toExt⟩
def ViewR (q p since:Nat) (C:List Ch) (R:List Sp):Rs:=.ex fun x:Option Addr×Nat×Option Addr×Nat=>.many [Var q [.pointer (some ⟨p,0,none⟩),.int .i64 since,.slice x.1 C.length x.2.1,.slice x.2.2.1 R.length x.2.2.2] 189,.imm (fun w=>ChAt w x.1 C),Row2 98 2 x.2.2.1 R.length x.2.2.2 (R.flatMap spC)]
def zAY (R:List Sp) (s:Sp):Nat:=if hasS R s then 0 else if R.length=40 then 2 else 0
def zA7 (R:List Sp) (s:Sp):List Sp:=if hasS R s then R else if R.length=40 then R else R++[s]
theorem rowV {w:World} {e:TypeId} {size n c:Nat} {a:Option Addr} {xs:List Value} (h:(Row2 e size a n c xs).facts w):ValsAt w a xs:=h.1
theorem Tryz.infoSp:(Tryz.prog.info? 98).map (fun i=>(i.zero,i.size,i.bytes))=some (some (.agg #[.string ⟨#[]⟩,.string ⟨#[]⟩]),2,32):=by kernel_rfl
theorem zFd (q p since:Nat) (C:List Ch) (R:List Sp) (s:Sp) (hR:R.length≤40) :
 Does Tryz.prog 113 #[.pointer (some ⟨q,0,none⟩),.agg #[.string s.lo,.string s.hi]] [ViewR q p since C R] (fun _:Unit=>(errV (zAY R s),[ViewR q p since C (zA7 R s)])):=by
 obtain ⟨iS,hiS,hzS,hsS,hbS⟩:=info_parts Tryz.infoSp;intro S W w L0 hO;simp only [CA] at hO;obtain ⟨⟨ca,cc,ra,rc⟩,hO⟩:=hO.ofEx;replace hO:=hO.unpack;dsimp only at hO;simp only [CA] at hO;(replace hf:=fa_ hO);have HCT:=fun w h=>zK7 ra R.length rc R s w rfl (by omega) h
 by_cases hh:hasS R s=true
 ·have e1:zAY R s=0:=by unfold zAY;rw [if_pos hh]
  have e2:zA7 R s=R:=by unfold zA7;rw [if_pos hh]
  rw [e1,e2];rw [hh] at HCT;clear e1 e2 hh;obtain ⟨lo,hi⟩:=s;dsimp only at HCT;go_enter Tryz.func113,Tryz.ntmps113;go_wp2_with (refine sq_ ?_;clear hO;(try clear hf);intro w9 hO hf);(refine rg_ hO ((0,0)::(0,1)::(0,2)::(1,3)::(1,4)::(3,5)::[]) ?_;clear hO;intro w9 hO;replace hf:=fa_ hO;(repeat (first|(apply zAG _ rfl rfl rfl;focus (intro w8 K8 hK8;(repeat (first | go_skip | go_guarded | go_step));exact hK8))|(apply zAJ _ rfl rfl rfl;focus (intro w8 hx8 K8 hK8;have hO:=hO.ext hx8;(replace hf:=fa_ hO);skip;(repeat (first | go_skip | go_guarded | go_step));exact hK8))|(apply zAL _ rfl;(focus (intro w8 hx8 K8 hK8;have hO:=hO.ext hx8;(replace hf:=fa_ hO);(repeat (first | go_skip | go_guarded | go_step | (go_at_call 198;(with_reducible refine Calls.mono (HCT _ (rowV (hO.factOf (r:=Row2 98 2 ra R.length rc (R.flatMap spC)) pk_))) ?_;rintro e7 w7 ⟨rfl,hx7⟩;dsimp only))));(first | exact xt_ | exact hK8 _ xt_)));(focus (exact rfl));intro w8 hx8;replace hO:=hO.ext hx8;clear hx8;(replace hf:=fa_ hO)))));refine zAA ?_;go_wp2_with (refine sq_ ?_;clear hO;(try clear hf);intro w9 hO hf);go_ret;refine ⟨(),rfl,?_⟩;(try simp only [CA]);(refine Own.toEx (ca,cc,ra,rc) (Own.pack ?_);dsimp only;(try simp only [CA]);exact hO.cut sb_)
 ·have hh2:hasS R s=false:=by simpa using hh
  rw [hh2] at HCT;by_cases h40:R.length=40
  ·have e1:zAY R s=2:=by unfold zAY;rw [if_neg hh,if_pos h40]
   have e2:zA7 R s=R:=by unfold zA7;rw [if_neg hh,if_pos h40]
   rw [e1,e2,show errV 2=.iface 124 (.int .i64 2) from rfl];have h40a:40≤R.length:=by omega
   clear e1 e2 hh hh2 h40;obtain ⟨lo,hi⟩:=s;dsimp only at HCT;go_enter Tryz.func113,Tryz.ntmps113;go_wp2_with (refine sq_ ?_;clear hO;(try clear hf);intro w9 hO hf);(refine rg_ hO ((0,0)::(0,1)::(0,2)::(1,3)::(1,4)::(3,5)::[]) ?_;clear hO;intro w9 hO;replace hf:=fa_ hO;(repeat (first|(apply zAG _ rfl rfl rfl;focus (intro w8 K8 hK8;(repeat (first | go_skip | go_guarded | go_step));exact hK8))|(apply zAJ _ rfl rfl rfl;focus (intro w8 hx8 K8 hK8;have hO:=hO.ext hx8;(replace hf:=fa_ hO);skip;(repeat (first | go_skip | go_guarded | go_step));exact hK8))|(apply zAL _ rfl;(focus (intro w8 hx8 K8 hK8;have hO:=hO.ext hx8;(replace hf:=fa_ hO);(repeat (first | go_skip | go_guarded | go_step | (go_at_call 198;(with_reducible refine Calls.mono (HCT _ (rowV (hO.factOf (r:=Row2 98 2 ra R.length rc (R.flatMap spC)) pk_))) ?_;rintro e7 w7 ⟨rfl,hx7⟩;dsimp only))));(first | exact xt_ | exact hK8 _ xt_)));(focus (exact rfl));intro w8 hx8;replace hO:=hO.ext hx8;clear hx8;(replace hf:=fa_ hO)))));refine zAA ?_;go_wp2_with (refine sq_ ?_;clear hO;(try clear hf);intro w9 hO hf);all_goals try (exfalso;omega;done)
   go_ret;refine ⟨(),rfl,?_⟩;(try simp only [CA]);(refine Own.toEx (ca,cc,ra,rc) (Own.pack ?_);dsimp only;(try simp only [CA]);exact hO.cut sb_)
  ·have e1:zAY R s=0:=by unfold zAY;rw [if_neg hh,if_neg h40]
   have e2:zA7 R s=R++[s]:=by unfold zA7;rw [if_neg hh,if_neg h40]
   rw [e1,e2];have h39:R.length≤39:=by omega
   clear e1 e2 hh hh2 h40;obtain ⟨lo,hi⟩:=s;dsimp only at HCT;go_enter Tryz.func113,Tryz.ntmps113;go_wp2_with (refine sq_ ?_;clear hO;(try clear hf);intro w9 hO hf);(refine rg_ hO ((0,0)::(0,1)::(0,2)::(1,3)::(1,4)::(3,5)::[]) ?_;clear hO;intro w9 hO;replace hf:=fa_ hO;(repeat (first|(apply zAG _ rfl rfl rfl;focus (intro w8 K8 hK8;(repeat (first | go_skip | go_guarded | go_step));exact hK8))|(apply zAJ _ rfl rfl rfl;focus (intro w8 hx8 K8 hK8;have hO:=hO.ext hx8;(replace hf:=fa_ hO);skip;(repeat (first | go_skip | go_guarded | go_step));exact hK8))|(apply zAL _ rfl;(focus (intro w8 hx8 K8 hK8;have hO:=hO.ext hx8;(replace hf:=fa_ hO);(repeat (first | go_skip | go_guarded | go_step | (go_at_call 198;(with_reducible refine Calls.mono (HCT _ (rowV (hO.factOf (r:=Row2 98 2 ra R.length rc (R.flatMap spC)) pk_))) ?_;rintro e7 w7 ⟨rfl,hx7⟩;dsimp only))));(first | exact xt_ | exact hK8 _ xt_)));(focus (exact rfl));intro w8 hx8;replace hO:=hO.ext hx8;clear hx8;(replace hf:=fa_ hO)))));refine zAA ?_;go_wp2_with (refine sq_ ?_;clear hO;(try clear hf);intro w9 hO hf);all_goals try (exfalso;omega;done)
   (refine rg_ hO ((0,0)::(0,1)::(0,2)::(0,3)::(1,4)::(1,5)::(4,6)::(5,7)::(0,8)::(0,9)::(5,10)::[]) ?_;clear hO;intro w9 hO;replace hf:=fa_ hO;(refine ss_ hO ?_;clear hO;(try clear hf);intro w9 hO hf));(refine zBt rfl ?_;intro K8 hK8;(repeat (first | go_skip | go_guarded | go_step));refine hK8 _ _ xt_ ?_;clear hK8 K8;with_reducible refine zAV hO ?_;clear hO;intro w9 hO;(replace hf:=fa_ hO));(refine zAE rfl ?_;intro K8 hK8;(repeat (first | go_skip | go_guarded));refine zAH (e:=98) (size:=2) (xs:=R.flatMap spC) (news:=[.string lo,.string hi]) hO pk_ pk_ rfl (.tmp 22) (.tmp 24) 37 rfl iS _ 32 Tryz.underlying37 hiS hzS hsS hbS rfl (by omega) rfl _ _ rfl (by rfl) (by repeat (first | exact zAp | refine zAf rfl ?_)) (by unfold maxLen;omega) (by omega) ?_;clear hO;intro ka9 kc9 w9 hO;(replace hf:=fa_ hO);(repeat go_step);refine hK8 _ _ trivial ?_;clear hK8 K8);(refine ss_ hO ?_;clear hO;(try clear hf);intro w9 hO hf);(refine zAE rfl ?_;intro K8 hK8;(repeat (first | go_skip | go_guarded | go_step));refine hK8 _ _ trivial ?_;clear hK8 K8;with_reducible apply zA0;(focus (exact st_ hO));clear hO;intro w9 hO;(try dsimp only [List.set] at hO);(replace hf:=fa_ hO));refine zAA ?_;go_wp2_with (refine sq_ ?_;clear hO;(try clear hf);intro w9 hO hf);go_ret;refine ⟨(),rfl,?_⟩;(try simp only [CA]);refine Own.toEx (ca,cc,ka9,kc9) (Own.pack ?_);dsimp only;rw [show (R++[(⟨lo,hi⟩:Sp)]).length=R.length+1 from by rw [List.length_append];rfl,show (R++[(⟨lo,hi⟩:Sp)]).flatMap spC=R.flatMap spC++[.string lo,.string hi] from by rw [List.flatMap_append];rfl];(try simp only [CA]);exact hO.cut sb_
structure KD where
 n:Int
 a:Option Addr
 c:Nat
 ks:List ByteArray
def kdC (d:KD):List Value:=[.int .i64 d.n,.slice d.a d.ks.length d.c]
def zCU (w:World) (L:List KD):Prop:=∀d∈L,ValsAt w d.a (d.ks.map .string)
def KD.st (d:KD):Int×List ByteArray:=(d.n,d.ks)
def zDr (p:Nat) (st:List (Int×List ByteArray)):Rs:=.ex fun x:Option Addr×Nat×List KD=>.many [Var p [.slice x.1 x.2.2.length x.2.1] 148,Row2 226 2 x.1 x.2.2.length x.2.1 (x.2.2.flatMap kdC),.imm (fun w=>zCU w x.2.2),.pure (x.2.2.map KD.st=st)]
def zAm (l:List Ch):List ByteArray:=l.map Ch.key
def zCE (st:List (Int×List ByteArray)) (l:List Sp) (since:Int):Bool:=st.all fun d=>d.2.all fun k=>!(decide (d.1>since)&&l.any fun s=>s.has k)
theorem Own.kdNone {S:Nat→Prop} {W w:World} {l:List Rs} (h:Own S W w l):Own S W w (.imm (fun w=>zCU w [])::l):=
 Own.toImm (r:=Row2 226 2 none 0 0 []) (φ:=fun w=>zCU w []) (fun _ _ d hd=>by cases hd) (h.nil _ _)
theorem Own.toHist {S:Nat→Prop} {W w:World} {l:List Rs} {p:Nat} (h:Own S W w (Var p [.slice none 0 0] 148::l)):Own S W w (zDr p []::l):=by
 have h1:=((h.nil 226 2).kdNone).toPure (p:=([]:List KD).map KD.st=[]) rfl;refine Own.toEx (none,0,[]) (Own.pack ?_);show Own S W w (Var p [.slice none 0 0] 148::Row2 226 2 none 0 0 []::.imm (fun w=>zCU w [])::.pure (([]:List KD).map KD.st=[])::l);exact h1.cut sb_
theorem Own.kdAdd {S:Nat→Prop} {W w:World} {l:List Rs} {L:List KD} {d:KD} (h:Own S W w (.imm (fun w=>ValsAt w d.a (d.ks.map .string))::.imm (fun w=>zCU w L)::l)):Own S W w (.imm (fun w=>zCU w (L++[d]))::l):=
 h.and.imp fun w hw x hx=>by
  rcases List.mem_append.1 hx with hx | hx
  ·exact hw.2 x hx
  ·rw [List.mem_singleton.1 hx];exact hw.1
theorem zMH {w:World} {l:List KD} {b off i:Nat} (h:ValsAt w (some ⟨b,off,none⟩) (l.flatMap kdC)) (hi:i<l.length):w.cell? ⟨b,off+i*2,none⟩=some (.int .i64 l[i].n)∧w.cell? ⟨b,off+i*2+1,none⟩=some (.slice l[i].a l[i].ks.length l[i].c):=by
 have g0:=zAj kdC 2 (fun _=>rfl) l i hi 0 (by omega);have g1:=zAj kdC 2 (fun _=>rfl) l i hi 1 (by omega);exact ⟨ValsAt.get h g0,by rw [Nat.add_assoc];exact ValsAt.get h g1⟩
theorem zOT {w:World} {l:List KD} {a:Option Addr} {i:Nat} (h:ValsAt w a (l.flatMap kdC)) (hi:i<l.length):∃b off,a=some ⟨b,off,none⟩:=
 ValsAt.some h (zAj kdC 2 (fun _=>rfl) l i hi 0 (by omega))
theorem Tryz.infoKd:(Tryz.prog.info? 226).map (fun i=>(i.zero,i.size,i.bytes))=some (some (.agg #[.int .i64 0,.slice none 0 0]),2,32):=by kernel_rfl
theorem zTw:(Tryz.prog.info? 9).map (fun i=>(i.zero,i.size,i.bytes))=some (some (.string ⟨#[]⟩),1,16):=by kernel_rfl
theorem zP3 (p:Nat) (st:List (Int×List ByteArray)) (n:Int) (a:Option Addr) (cap:Nat) (l:List Ch) (hl:l.length≤1000) (hst:st.length≤100000) :
 Does Tryz.prog 73 #[.pointer (some ⟨p,0,none⟩),.int .i64 n,.slice a l.length cap] [zDr p st,.imm fun w=>ChAt w a l] (fun _:Unit=>(.tuple #[],[zDr p (st++[(n,zAm l)]),.imm fun w=>ChAt w a l])):=by
 obtain ⟨iD,hiD,hzD,hsD,hbD⟩:=info_parts Tryz.infoKd;obtain ⟨iS,hiS,hzS,hsS,hbS⟩:=info_parts zTw;intro S W w L0 hO;simp only [CA] at hO;obtain ⟨⟨ha,hc,L⟩,hO⟩:=hO.ofEx;replace hO:=hO.unpack;dsimp only at hO;simp only [CA] at hO;(replace hf:=fa_ hO);have hL:L.map KD.st=st:=hO.factOf (r:=.pure (L.map KD.st=st)) pk_;have hLn:L.length≤100000:=by rw [←hL,List.length_map] at hst;exact hst
 have hL:=Lib.hid hL;go_enter Tryz.func73,Tryz.ntmps73;go_wp2_with (refine sq_ ?_;clear hO;(try clear hf);intro w9 hO hf);obtain ⟨d,hg9⟩:=(hO.pick (r:=Var _ [.int .i64 n,.slice none 0 0] 226) pk_).named;rw [←hg9];rw [←hg9] at hO;clear hg9;have hO9:=hO.nil 9 1;clear hO hf;go_loopw [13] (fun v13 wr=>∃(i:Nat) (ka:Option Addr) (kc:Nat),v13=.int .i64 (i:Int)∧i≤l.length∧Own S W wr (Var d [.int .i64 n,.slice ka i kc] 226::Row2 9 1 ka i kc ((zAm (l.take i)).map .string)::Var p [.slice ha L.length hc] 148::Row2 226 2 ha L.length hc (L.flatMap kdC)::.imm (fun w=>zCU w L)::.imm (fun w=>ChAt w a l)::L0)) (fun v _=>l.length+1-(intOf v).toNat)
 case atStart=>exact ⟨0,none,0,rfl,by omega,(by rw [show (zAm (l.take 0)).map Value.string=[] from rfl];exact hO9.cut sb_)⟩
 case round=>
  clear hO9;obtain ⟨i,ka,kc,rfl,hi,hO⟩:=hrel;rename World=>w1
  (replace hf:=fa_ hO);by_cases hlt:i<l.length
  ·obtain ⟨b,off,rfl⟩:=(Own.immOf (φ:=fun w=>ChAt w a l) hO pk_).some (by omega);have hc0:=ChAt.at (Own.immOf (φ:=fun w=>ChAt w (some ⟨b,off,none⟩) l) hO pk_) hlt;have hT:=Lib.hid (show zAm (l.take (i+1))=zAm (l.take i)++[l[i].key] from by unfold zAm;rw [List.take_succ_eq_append_getElem hlt,List.map_append];rfl);generalize l[i]=x at *;obtain ⟨xk,xv,xg⟩:=x;dsimp only at hc0 hT;obtain ⟨c0,c1,c2⟩:=hc0;go_wp2_with (first|(at_builtin;(refine zAH (e:=9) (size:=1) (xs:=_) (news:=[.string xk]) hO pk_ pk_ rfl (.tmp 18) (.tmp 21) 69 rfl iS _ 16 Tryz.underlying69 hiS hzS hsS hbS rfl (by omega) rfl _ _ rfl rfl (by repeat (first | exact zAp | refine zAf rfl ?_)) (by unfold maxLen;omega) (by omega) ?_;clear hO;intro ka9 kc9 w9 hO;(replace hf:=fa_ hO)))|(refine sq_ ?_;clear hO;(try clear hf);intro w9 hO hf));all_goals try (exfalso;omega;done)
   exact ⟨⟨i+1,ka9,kc9,by go_num,by omega,(by rw [hT.out,List.map_append,show [xk].map Value.string=[.string xk] from rfl];exact hO.cut sb_)⟩,by simp [intOf];omega⟩
  ·obtain rfl:i=l.length:=by omega
   rw [List.take_length] at hO;have hkl:(zAm l).length=l.length:=by unfold zAm;rw [List.length_map]
   go_wp2_with (refine sq_ ?_;clear hO;(try clear hf);intro w9 hO hf);all_goals try (exfalso;omega;done)
   (refine rg_ hO ((0,0)::(0,1)::(0,2)::(0,3)::(1,4)::(1,5)::(4,6)::(5,7)::(0,8)::(0,9)::(5,10)::[]) ?_;clear hO;intro w9 hO;replace hf:=fa_ hO;(refine ss_ hO ?_;clear hO;(try clear hf);intro w9 hO hf));(refine zBt rfl ?_;intro K8 hK8;(repeat (first | go_skip | go_guarded | go_step));refine hK8 _ _ xt_ ?_;clear hK8 K8;with_reducible refine zAV hO ?_;clear hO;intro w9 hO;(replace hf:=fa_ hO));(refine ss_ hO ?_;clear hO;(try clear hf);intro w9 hO hf);(refine zAE rfl ?_;intro K8 hK8;(refine zAH (e:=226) (size:=2) (xs:=_) (news:=[.int .i64 n,.slice ka l.length kc]) hO pk_ pk_ rfl (.tmp 29) (.tmp 31) 146 rfl iD _ 32 Tryz.underlying146 hiD hzD hsD hbD rfl (by omega) rfl _ _ rfl rfl (by repeat (first | exact zAp | refine zAf rfl ?_)) (by unfold maxLen;omega) (by omega) ?_;clear hO;intro ka9 kc9 w9 hO;(replace hf:=fa_ hO));go_step;refine hK8 _ _ trivial ?_;clear hK8 K8);(refine ss_ hO ?_;clear hO;(try clear hf);intro w9 hO hf);(refine zAE rfl ?_;intro K8 hK8;(repeat (first | go_skip | go_guarded | go_step));refine hK8 _ _ trivial ?_;clear hK8 K8;with_reducible apply zA0;(focus (exact st_ hO));clear hO;intro w9 hO;(try dsimp only [List.set] at hO);(replace hf:=fa_ hO));refine zAA ?_;go_wp2_with (refine sq_ ?_;clear hO;(try clear hf);intro w9 hO hf);go_end0;refine ⟨(),rfl,?_⟩;(try simp only [CA]);replace hO:=Own.toImm (r:=Row2 9 1 ka l.length kc ((zAm l).map .string)) (φ:=fun w=>ValsAt w ka ((zAm l).map .string)) (fun w h=>h.1) (hO.pick pk_);replace hO:=hO.take (rs:=[.imm fun w=>ValsAt w ka ((zAm l).map .string),.imm (fun w=>zCU w L)]) tk_;simp only [List.cons_append,List.nil_append] at hO;replace hO:=Own.kdAdd (L:=L) (d:=⟨n,ka,kc,zAm l⟩) hO;replace hO:=hO.toPure (p:=(L++[(⟨n,ka,kc,zAm l⟩:KD)]).map KD.st=st++[(n,zAm l)]) (by rw [List.map_append,hL.out];rfl);refine Own.toEx (ka9,kc9,L++[⟨n,ka,kc,zAm l⟩]) (Own.pack ?_);dsimp only;rw [List.length_append,List.flatMap_append,show ([⟨n,ka,kc,zAm l⟩]:List KD).flatMap kdC=[.int .i64 n,.slice ka l.length kc] from by rw [←hkl];rfl,List.length_singleton];(try simp only [CA]);exact hO.cut sb_
theorem zNX (p:Nat) (st:List (Int×List ByteArray)) (n:Int) (hst:st.length≤100000) :
 Does Tryz.prog 74 #[.pointer (some ⟨p,0,none⟩),.int .i64 n] [zDr p st] (fun _:Unit=>(.tuple #[],[zDr p (st.filter fun d=>decide (d.1>n))])):=by
 obtain ⟨iD,hiD,hzD,hsD,hbD⟩:=info_parts Tryz.infoKd;intro S W w L0 hO;simp only [CA] at hO;obtain ⟨⟨ha,hc,L⟩,hO⟩:=hO.ofEx;replace hO:=hO.unpack;dsimp only at hO;simp only [CA] at hO;(replace hf:=fa_ hO);have hL:L.map KD.st=st:=hO.factOf (r:=.pure (L.map KD.st=st)) pk_;have hLn:L.length≤100000:=by rw [←hL,List.length_map] at hst;exact hst
 have hL:=Lib.hid hL;go_enter Tryz.func74,Tryz.ntmps74;go_wp2_with (refine sq_ ?_;clear hO;(try clear hf);intro w9 hO hf);have hO9:=hO.nil 226 2;clear hO hf;go_loopw [4,12] (fun v4 v12 wr=>∃(i:Nat) (oa:Option Addr) (oc:Nat) (M:List KD),v4=.slice oa M.length oc∧v12=.int .i64 (i:Int)∧i≤L.length∧M.length≤i∧Hid (M=(L.take i).filter fun d=>decide (d.n>n))∧Own S W wr (Row2 226 2 oa M.length oc (M.flatMap kdC)::Var p [.slice ha L.length hc] 148::Row2 226 2 ha L.length hc (L.flatMap kdC)::.imm (fun w=>zCU w L)::L0)) (fun _ v _=>L.length+1-(intOf v).toNat)
 case atStart=>exact ⟨0,none,0,[],rfl,rfl,by omega,by simp,Lib.hid rfl,(by rw [show ([]:List KD).flatMap kdC=[] from rfl,List.length_nil];exact hO9.cut sb_)⟩
 case round=>
  clear hO9;obtain ⟨i,oa,oc,M,rfl,rfl,hi,hMl,hM,hO⟩:=hrel;rename World=>w1
  (replace hf:=fa_ hO);by_cases hlt:i<L.length
  ·obtain ⟨b,off,rfl⟩:=zOT (rowV (hO.factOf (r:=Row2 226 2 ha L.length hc (L.flatMap kdC)) pk_)) hlt;have hc0:=zMH (rowV (hO.factOf (r:=Row2 226 2 (some ⟨b,off,none⟩) L.length hc (L.flatMap kdC)) pk_)) hlt;have hT:=Lib.hid (List.take_succ_eq_append_getElem hlt);generalize L[i]=x at *;obtain ⟨xn,xa,xc,xk⟩:=x;dsimp only at hc0 hT;obtain ⟨c0,c1⟩:=hc0;by_cases hn:xn>n
   ·have hM2:=Lib.hid (show M++[⟨xn,xa,xc,xk⟩]=(L.take (i+1)).filter (fun d=>decide (d.n>n)) from by rw [hT.out,List.filter_append,←hM.out,List.filter_cons_of_pos (by simpa using hn)];rfl);go_wp2_with (first|(at_builtin;(refine zAH (e:=226) (size:=2) (xs:=M.flatMap kdC) (news:=[.int .i64 xn,.slice xa xk.length xc]) hO pk_ pk_ rfl (.tmp 20) (.tmp 22) 146 rfl iD _ 32 Tryz.underlying146 hiD hzD hsD hbD rfl (by omega) rfl _ _ rfl rfl (by repeat (first | exact zAp | refine zAf rfl ?_)) (by unfold maxLen;omega) (by omega) ?_;clear hO;intro ka9 kc9 w9 hO;(replace hf:=fa_ hO)))|(refine sq_ ?_;clear hO;(try clear hf);intro w9 hO hf));all_goals try (exfalso;omega;done)
    exact ⟨⟨i+1,ka9,kc9,M++[⟨xn,xa,xc,xk⟩],(by rw [List.length_append];rfl),by go_num,by omega,(by rw [List.length_append,List.length_singleton];omega),hM2,(by rw [List.length_append,List.flatMap_append,show ([⟨xn,xa,xc,xk⟩]:List KD).flatMap kdC=[.int .i64 xn,.slice xa xk.length xc] from rfl,List.length_singleton];exact hO.cut sb_)⟩,by simp [intOf];omega⟩
   ·have hM2:=Lib.hid (show M=(L.take (i+1)).filter (fun d=>decide (d.n>n)) from by rw [hT.out,List.filter_append,←hM.out,List.filter_cons_of_neg (by simpa using hn)];simp);go_wp2_with (refine sq_ ?_;clear hO;(try clear hf);intro w9 hO hf);all_goals try (exfalso;omega;done)
    exact ⟨⟨i+1,oa,oc,M,rfl,by go_num,by omega,by omega,hM2,hO.cut sb_⟩,by simp [intOf];omega⟩
  ·obtain rfl:i=L.length:=by omega
   go_wp2_with (refine sq_ ?_;clear hO;(try clear hf);intro w9 hO hf);all_goals try (exfalso;omega;done)
   go_end0;refine ⟨(),rfl,?_⟩;(try simp only [CA]);have hMe:=hM.out;rw [List.take_length] at hMe;have hst2:M.map KD.st=st.filter fun d=>decide (d.1>n):=by
    rw [←hL.out,hMe,List.filter_map];rfl
   replace hO:=((hO.pick (r:=.imm (fun w=>zCU w L)) pk_).imp (ψ:=fun w=>zCU w M) fun w h d hd=>h d (List.mem_filter.1 (show d∈L.filter _ from by rw [←hMe];exact hd)).1).toPure (p:=M.map KD.st=st.filter fun d=>decide (d.1>n)) hst2;refine Own.toEx (oa,oc,M) (Own.pack ?_);dsimp only;(try simp only [CA]);exact hO.cut sb_
theorem zO4 (A:List (Int×List ByteArray)) (d:Int×List ByteArray) (l:List Sp) (n:Int):zCE (A++[d]) l n=(zCE A l n&&d.2.all fun k=>!(decide (d.1>n)&&l.any fun s=>s.has k)):=by
 unfold zCE;rw [List.all_append];simp
theorem zN5 {st:List (Int×List ByteArray)} {l:List Sp} {n:Int} {d:Int×List ByteArray} {k:ByteArray} (hd:d∈st) (hk:k∈d.2) (h1:d.1>n) (h2:l.any (fun s=>s.has k)=true):zCE st l n=false:=by
 unfold zCE;rw [List.all_eq_false];refine ⟨d,hd,?_⟩;rw [Bool.not_eq_true,List.all_eq_false];exact ⟨k,hk,by rw [h2,decide_eq_true h1];simp⟩
theorem zPN (p:Nat) (st:List (Int×List ByteArray)) (a:Option Addr) (cap:Nat) (l:List Sp) (n:Int) (hst:st.length≤100000) (hks:∀d∈st,d.2.length≤100000) (hl:l.length≤maxLen) :
 Does Tryz.prog 69 #[.pointer (some ⟨p,0,none⟩),.slice a l.length cap,.int .i64 n] [zDr p st,(.imm fun w=>SpansAt w a l)] (fun _:Unit=>(.bool (zCE st l n),[zDr p st,(.imm fun w=>SpansAt w a l)])):=by
 have HA:=fun k w h=>zTO a cap l k w hl h
 intro S W w L0 hO;simp only [CA] at hO;obtain ⟨⟨ha,hc,L⟩,hO⟩:=hO.ofEx;replace hO:=hO.unpack;dsimp only at hO;simp only [CA] at hO;(replace hf:=fa_ hO);have hL:L.map KD.st=st:=hO.factOf (r:=.pure (L.map KD.st=st)) pk_;have hLn:L.length≤100000:=by rw [←hL,List.length_map] at hst;exact hst
 have hL:=Lib.hid hL;have HKS:=Lib.hid hks;clear hks;go_enter Tryz.func69,Tryz.ntmps69;go_wp2_with (refine sq_ ?_;clear hO;(try clear hf);intro w9 hO hf);have hO9:=hO;clear hO hf;go_loopw [16] (fun v16 wr=>∃(i:Nat),v16=.int .i64 (i:Int)∧i≤L.length∧Hid (zCE ((L.take i).map KD.st) l n=true)∧Own S W wr (Var p [.slice ha L.length hc] 148::Row2 226 2 ha L.length hc (L.flatMap kdC)::.imm (fun w=>zCU w L)::(.imm fun w=>SpansAt w a l)::L0)) (fun v _=>L.length+1-(intOf v).toNat)
 case atStart=>exact ⟨0,rfl,by omega,Lib.hid rfl,hO9.cut sb_⟩
 case round=>
  clear hO9;obtain ⟨i,rfl,hi,hcl,hO⟩:=hrel;rename World=>w1
  (replace hf:=fa_ hO);by_cases hlt:i<L.length
  ·obtain ⟨b,off,rfl⟩:=zOT (rowV (hO.factOf (r:=Row2 226 2 ha L.length hc (L.flatMap kdC)) pk_)) hlt;have hc0:=zMH (rowV (hO.factOf (r:=Row2 226 2 (some ⟨b,off,none⟩) L.length hc (L.flatMap kdC)) pk_)) hlt;have hxm:=List.getElem_mem hlt;have hx1:=fun w (h:zCU w L)=>h _ hxm
   have hT:=Lib.hid (show (L.take (i+1)).map KD.st=(L.take i).map KD.st++[(L[i]).st] from by rw [List.take_succ_eq_append_getElem hlt,List.map_append];rfl);have hxs:(L[i]).st∈st:=by rw [←hL.out];exact List.mem_map_of_mem hxm
   have hxk:=HKS.out _ hxs;clear hxm;generalize L[i]=x at *;obtain ⟨xn,xa,xc,xk⟩:=x;have HXS:=Lib.hid hxs;clear hxs;have hxk2:xk.length≤100000:=hxk;clear hxk;dsimp only at hc0 hx1;obtain ⟨c0,c1⟩:=hc0;go_wp2_with (refine sq_ ?_;clear hO;(try clear hf);intro w9 hO hf);obtain ⟨d8,hg9⟩:=(hO.pick (r:=Var _ [.int .i64 xn,.slice xa xk.length xc] 226) pk_).named;rw [←hg9];rw [←hg9] at hO;clear hg9;have hO9:=hO;clear hO hf;go_loopw [23] (fun v23 wr=>∃(j:Nat),v23=.int .i64 (j:Int)∧j≤xk.length∧Hid ((xk.take j).all (fun k=>!(decide (xn>n)&&l.any fun s=>s.has k))=true)∧Own S W wr (Var d8 [.int .i64 xn,.slice xa xk.length xc] 226::Var p [.slice (some ⟨b,off,none⟩) L.length hc] 148::Row2 226 2 (some ⟨b,off,none⟩) L.length hc (L.flatMap kdC)::.imm (fun w=>zCU w L)::(.imm fun w=>SpansAt w a l)::L0)) (fun v _=>xk.length+1-(intOf v).toNat)
   case atStart=>exact ⟨0,rfl,by omega,Lib.hid rfl,hO9.cut sb_⟩
   case round=>
    clear hO9;obtain ⟨j,rfl,hj,hal,hO⟩:=hrel;rename World=>w2
    (replace hf:=fa_ hO);by_cases hjl:j<xk.length
    ·have hj2:(xk.map Value.string)[j]?=some (.string xk[j]):=by rw [List.getElem?_map,List.getElem?_eq_getElem hjl];rfl
     obtain ⟨b2,o2,rfl⟩:=ValsAt.some (hx1 _ (Own.immOf (φ:=fun w=>zCU w L) hO pk_)) hj2;have d0:=ValsAt.get (hx1 _ (Own.immOf (φ:=fun w=>zCU w L) hO pk_)) hj2;have hkm:=List.getElem_mem hjl;have hTk:=Lib.hid (List.take_succ_eq_append_getElem hjl);generalize xk[j]=k at *;specialize HA k;by_cases hn:xn>n
     ·cases hany:l.any (fun s=>s.has k) with
      | true=>
       have hcf:=zN5 (l:=l) HXS.out hkm hn hany;rw [hany] at HA;go_wp2_with (first|(go_at_call 147;(with_reducible apply Calls.mono (HA _ (Own.immOf (φ:=fun w=>SpansAt w a l) hO pk_));refine cu_ ?_;clear hO;(try clear hf);intro w8 hO hf))|(refine sq_ ?_;clear hO;(try clear hf);intro w9 hO hf));all_goals try (exfalso;omega;done)
       go_ret;refine ⟨(),by rw [hcf];rfl,?_⟩;(try simp only [CA]);replace hO:=hO.toPure (p:=L.map KD.st=st) hL.out;refine Own.toEx (some ⟨b,off,none⟩,hc,L) (Own.pack ?_);dsimp only;(try simp only [CA]);exact hO.cut sb_
      | false=>
       have hal2:=Lib.hid (show (xk.take (j+1)).all (fun k=>!(decide (xn>n)&&l.any fun s=>s.has k))=true from by rw [hTk.out,List.all_append,hal.out];simp [hany]);rw [hany] at HA;go_wp2_with (first|(go_at_call 147;(with_reducible apply Calls.mono (HA _ (Own.immOf (φ:=fun w=>SpansAt w a l) hO pk_));refine cu_ ?_;clear hO;(try clear hf);intro w8 hO hf))|(refine sq_ ?_;clear hO;(try clear hf);intro w9 hO hf));all_goals try (exfalso;omega;done)
       exact ⟨⟨j+1,by go_num,by omega,hal2,hO.cut sb_⟩,by simp [intOf];omega⟩
     ·have hal2:=Lib.hid (show (xk.take (j+1)).all (fun k=>!(decide (xn>n)&&l.any fun s=>s.has k))=true from by rw [hTk.out,List.all_append,hal.out];simp [hn]);go_wp2_with (refine sq_ ?_;clear hO;(try clear hf);intro w9 hO hf);all_goals try (exfalso;omega;done)
      exact ⟨⟨j+1,by go_num,by omega,hal2,hO.cut sb_⟩,by simp [intOf];omega⟩
    ·obtain rfl:j=xk.length:=by omega
     have hcl2:=Lib.hid (show zCE ((L.take (i+1)).map KD.st) l n=true from by rw [hT.out,zO4,hcl.out];have:=hal.out;rw [List.take_length] at this;exact this);go_wp2_with (refine sq_ ?_;clear hO;(try clear hf);intro w9 hO hf);all_goals try (exfalso;omega;done)
     exact ⟨⟨i+1,by go_num,by omega,hcl2,hO.cut sb_⟩,by simp [intOf];omega⟩
  ·obtain rfl:i=L.length:=by omega
   have hcf:zCE st l n=true:=by have:=hcl.out;rw [List.take_length,hL.out] at this;exact this
   go_wp2_with (refine sq_ ?_;clear hO;(try clear hf);intro w9 hO hf);all_goals try (exfalso;omega;done)
   go_ret;refine ⟨(),by rw [hcf];rfl,?_⟩;(try simp only [CA]);replace hO:=hO.toPure (p:=L.map KD.st=st) hL.out;refine Own.toEx (ha,hc,L) (Own.pack ?_);dsimp only;(try simp only [CA]);exact hO.cut sb_
theorem Own.immNil {S:Nat→Prop} {W w:World} {l:List Rs} (h:Own S W w l):Own S W w (.imm (fun w=>ChAt w none [])::l):=
 Own.toImm (r:=Row2 142 3 none 0 0 []) (φ:=fun w=>ChAt w none []) (fun w h=>.inl rfl) (h.nil 142 3)
theorem zT0 (p nn:Nat) (V:List (ByteArray×List Vn)):Reads Tryz.prog 101 #[.pointer (some ⟨p,0,none⟩)] [VerR p nn V] (.int .i64 nn):=by
 intro w L0 hO;simp only [FZ] at hO;obtain ⟨⟨b,clock,L⟩,hO⟩:=hO.frzEx;replace hO:=hO.frzMany;dsimp only at hO;simp only [FZ] at hO;(replace hf:=fa_ hO);go_enter Tryz.func101,Tryz.ntmps101;go_wp2_with (refine sq_ ?_;clear hO hf;intro w9 hO hf);go_ret;exact ⟨rfl,hO.toExt⟩
theorem zPA (p nn:Nat) (V:List (ByteArray×List Vn)) :
 Does Tryz.prog 67 #[.pointer (some ⟨p,0,none⟩)] [VerR p nn V] (fun q:Nat=>(.pointer (some ⟨q,0,none⟩),[ViewR q p nn [] [],VerR p nn V])):=by
 have HN:=zT0 p nn V;intro S W w L0 hO;simp only [CA] at hO;(replace hf:=fa_ hO);go_enter Tryz.func67,Tryz.ntmps67;go_wp2_with (first|(go_at_call 101;(with_reducible apply Reads.use hO (HN);exact tk_;refine ru_ ?_;clear hO hf;intro w9 hO hf))|(refine sq_ ?_;clear hO hf;intro w9 hO hf));obtain ⟨q,hg9⟩:=(hO.pick (r:=Var _ [.pointer (some ⟨p,0,none⟩),.int .i64 nn,.slice none 0 0,.slice none 0 0] 189) pk_).named;rw [←hg9];rw [←hg9] at hO;clear hg9;have hO:=(hO.nil 98 2).immNil;go_ret;refine ⟨q,rfl,?_⟩;(try simp only [CA]);refine Own.toEx (none,0,none,0) (Own.pack ?_);simp only [List.length_nil,List.flatMap_nil,List.cons_append,List.nil_append];exact hO.cut sb_
noncomputable def getA (V:List (ByteArray×List Vn)) (since:Nat) (C:List Ch) (R:List Sp) (k:ByteArray):ByteArray×Bool×Nat:=
 if keyN k≠0 then (⟨#[]⟩,false,keyN k) else match zCS C k with
  | some c=>(c.val,!c.gone,0)
  | none=>if zAY R (Sp.point k)≠0 then (⟨#[]⟩,false,zAY R (Sp.point k)) else ((zAU V k since).1,(zAU V k since).2,0)
noncomputable def getB (C:List Ch) (R:List Sp) (k:ByteArray):List Sp:=if keyN k≠0 then R else match zCS C k with | some _=>R | none=>zA7 R (Sp.point k)
theorem zMU (R:List Sp) (s:Sp):zAY R s≤2:=by unfold zAY;split;omega;split<;>omega
theorem Own.toView {S:Nat→Prop} {W w:World} {l l':List Rs} {q p since:Nat} {C:List Ch} {R:List Sp} {ca ra:Option Addr} {cc rc:Nat} (h:Own S W w l)
 (ht:Takes l [Var q [.pointer (some ⟨p,0,none⟩),.int .i64 since,.slice ca C.length cc,.slice ra R.length rc] 189,.imm (fun w=>ChAt w ca C),Row2 98 2 ra R.length rc (R.flatMap spC)] l'):Own S W w (ViewR q p since C R::l'):=
 Own.toEx (ca,cc,ra,rc) (Own.pack (h.take ht))
theorem Own.ofView {S:Nat→Prop} {W w:World} {l l':List Rs} {q p since:Nat} {C:List Ch} {R:List Sp} (h:Own S W w l) (hp:Pick l (ViewR q p since C R) l'):∃ca cc ra rc,Own S W w (Var q [.pointer (some ⟨p,0,none⟩),.int .i64 since,.slice ca C.length cc,.slice ra R.length rc] 189::.imm (fun w=>ChAt w ca C)::Row2 98 2 ra R.length rc (R.flatMap spC)::l'):=by
 obtain ⟨⟨ca,cc,ra,rc⟩,h1⟩:=(h.pick hp).ofEx;exact ⟨ca,cc,ra,rc,h1.unpack⟩
theorem zE3 (q p since nn:Nat) (V:List (ByteArray×List Vn)) (C:List Ch) (R:List Sp) (k:ByteArray) (hk:k.size≤300) (hC:C.length≤1000) (hU:Ups C) (hR:R.length≤40) (hV:∀e∈V,e.2.length≤1000000) {φ:World→Prop} (hφ:∀w,φ w→LibOk w) :
 Does Tryz.prog 43 #[.pointer (some ⟨q,0,none⟩),.string k] [ViewR q p since C R,VerR p nn V,.imm φ]
  (fun _:Unit=>(.tuple #[.string (getA V since C R k).1,.bool (getA V since C R k).2.1,errV (getA V since C R k).2.2],[ViewR q p since C (getB C R k),VerR p nn V,.imm φ])):=by
 have HK:=fun w h=>zGW k w h (by omega)
 have HRD:=zNr p nn V k since hV;have HNT:=zFd q p since C R (Sp.point k) hR;have HP:∀w,Calls Tryz.prog 114 #[.string k] w fun e w'=>e=.returned (.agg #[.string (Sp.point k).lo,.string (Sp.point k).hi])∧Ext w w':=fun w=>zDS k w (by omega)
 intro S W w L0 hO;simp only [CA] at hO;by_cases hkn:keyN k≠0
 ·have e1:getA V since C R k=(⟨#[]⟩,false,keyN k):=by unfold getA;rw [if_pos hkn]
  have e2:getB C R k=R:=by unfold getB;rw [if_pos hkn]
  rw [e1,e2];dsimp only;clear e1 e2;generalize keyN k=N at *;obtain ⟨N,rfl⟩:∃N',N=N'+1:=⟨N-1,by omega⟩
  rw [show errV (N+1)=.iface 124 (.int .i64 ((N+1:Nat):Int)) from rfl] at HK ⊢;(replace hf:=fa_ hO);go_enter Tryz.func43,Tryz.ntmps43;go_wp2_with (first|(go_at_call 111;(with_reducible apply Calls.mono (HK _ (hφ _ (Own.immOf (φ:=φ) hO pk_)));refine cu_ ?_;clear hO hf;intro w8 hO hf))|(refine sq_ ?_;clear hO hf;intro w9 hO hf));go_ret3;refine ⟨(),rfl,?_⟩;(try simp only [CA]);exact hO.cut sb_
 ·have hk0:keyN k=0:=by omega
  rw [hk0,show errV 0=.nilIface from rfl] at HK;obtain ⟨⟨ca,cc,ra,rc⟩,hO⟩:=(hO.pick (r:=ViewR q p since C R) pk_).ofEx;replace hO:=hO.unpack;dsimp only at hO;simp only [List.cons_append,List.nil_append] at hO;have HF:=fun w h=>zSF ca C.length cc C k w rfl hC h hU
  cases hfc:zCS C k with
  | some c=>
   have e1:getA V since C R k=(c.val,!c.gone,0):=by unfold getA;rw [if_neg hkn,hfc]
   have e2:getB C R k=R:=by unfold getB;rw [if_neg hkn,hfc]
   rw [e1,e2,show errV 0=.nilIface from rfl];rw [hfc] at HF;clear e1 e2 hkn;obtain ⟨ck,cv,cg⟩:=c;simp only [Option.getD_some,Option.isSome_some] at HF;unfold Ch.v at HF;dsimp only at HF ⊢;(replace hf:=fa_ hO);go_enter Tryz.func43,Tryz.ntmps43;go_wp2_with (first|(go_at_call 111;(with_reducible apply Calls.mono (HK _ (hφ _ (Own.immOf (φ:=φ) hO pk_)));refine cu_ ?_;clear hO hf;intro w8 hO hf))|(go_at_call 112;(with_reducible apply Calls.mono (HF _ (Own.immOf (φ:=fun w=>ChAt w ca C) hO pk_));refine cu_ ?_;clear hO hf;intro w8 hO hf))|(refine sq_ ?_;clear hO hf;intro w9 hO hf));(refine rg_ hO ((0,0)::(1,1)::(0,2)::(1,3)::(0,4)::(0,5)::(0,6)::(0,7)::[]) ?_;clear hO;intro w9 hO;replace hf:=fa_ hO;(refine ss_ hO ?_;clear hO hf;intro w9 hO hf));refine zAA ?_;go_wp2_with (refine sq_ ?_;clear hO hf;intro w9 hO hf);go_ret3;refine ⟨(),rfl,?_⟩;(try simp only [CA]);(refine Own.toEx (ca,cc,ra,rc) (Own.pack ?_);dsimp only;(try simp only [CA]);exact hO.cut sb_)
  | none=>
   rw [hfc] at HF;simp only [Option.getD_none,Option.isSome_none] at HF;unfold Ch.v at HF;dsimp only at HF;by_cases hnn:zAY R (Sp.point k)≠0
   ·have e1:getA V since C R k=(⟨#[]⟩,false,zAY R (Sp.point k)):=by unfold getA;rw [if_neg hkn,hfc];dsimp only;rw [if_pos hnn]
    have e2:getB C R k=zA7 R (Sp.point k):=by unfold getB;rw [if_neg hkn,hfc]
    rw [e1,e2];clear e1 e2 hkn;generalize zAY R (Sp.point k)=N at *;obtain ⟨N,rfl⟩:∃N',N=N'+1:=⟨N-1,by omega⟩
    rw [show errV (N+1)=.iface 124 (.int .i64 ((N+1:Nat):Int)) from rfl] at HNT ⊢;generalize zA7 R (Sp.point k)=R' at *;generalize Sp.point k=sp at *;dsimp only;(replace hf:=fa_ hO);go_enter Tryz.func43,Tryz.ntmps43;go_wp2_with (first|(go_at_call 111;(with_reducible apply Calls.mono (HK _ (hφ _ (Own.immOf (φ:=φ) hO pk_)));refine cu_ ?_;clear hO hf;intro w8 hO hf))|(go_at_call 112;(with_reducible apply Calls.mono (HF _ (Own.immOf (φ:=fun w=>ChAt w ca C) hO pk_));refine cu_ ?_;clear hO hf;intro w8 hO hf))|(go_at_call 114;(with_reducible apply Calls.mono (HP _);refine cu_ ?_;clear hO hf;intro w8 hO hf))|(go_at_call 113;(replace hO:=hO.toView (C:=C) (R:=R) tk_;(go_at_call 113;(with_reducible apply Does.use hO (HNT);exact tk_;refine du_ ?_;clear hO hf;intro x9 w9 hO hf))))|(refine sq_ ?_;clear hO hf;intro w9 hO hf));go_ret3;refine ⟨(),rfl,?_⟩;(try simp only [CA]);exact hO.cut sb_
   ·have hn0:zAY R (Sp.point k)=0:=by omega
    have e1:getA V since C R k=((zAU V k since).1,(zAU V k since).2,0):=by unfold getA;rw [if_neg hkn,hfc];dsimp only;rw [if_neg hnn]
    have e2:getB C R k=zA7 R (Sp.point k):=by unfold getB;rw [if_neg hkn,hfc]
    rw [e1,e2,show errV 0=.nilIface from rfl];rw [hn0,show errV 0=.nilIface from rfl] at HNT;clear e1 e2 hkn hnn hn0;generalize zA7 R (Sp.point k)=R' at *;generalize Sp.point k=sp at *;generalize zAU V k since=y at *;obtain ⟨yv,yb⟩:=y;dsimp only at HRD ⊢;(replace hf:=fa_ hO);go_enter Tryz.func43,Tryz.ntmps43;go_upto_region 10 with (first|(go_at_call 111;(with_reducible apply Calls.mono (HK _ (hφ _ (Own.immOf (φ:=φ) hO pk_)));refine cu_ ?_;clear hO hf;intro w8 hO hf))|(go_at_call 112;(with_reducible apply Calls.mono (HF _ (Own.immOf (φ:=fun w=>ChAt w ca C) hO pk_));refine cu_ ?_;clear hO hf;intro w8 hO hf))|(go_at_call 114;(with_reducible apply Calls.mono (HP _);refine cu_ ?_;clear hO hf;intro w8 hO hf))|(go_at_call 113;(replace hO:=hO.toView (C:=C) (R:=R) tk_;(go_at_call 113;(with_reducible apply Does.use hO (HNT);exact tk_;refine du_ ?_;clear hO hf;intro x9 w9 hO hf))))|(refine sq_ ?_;clear hO hf;intro w9 hO hf))
    obtain ⟨ca2,cc2,ra2,rc2,hO⟩:=hO.ofView (C:=C) (R:=R') pk_;(replace hf:=fa_ hO);(refine rg_ hO ((0,0)::(0,1)::(0,2)::(1,3)::(0,4)::(0,5)::(0,6)::(0,7)::(1,8)::(3,9)::(0,10)::(0,11)::(0,12)::(0,13)::(0,14)::[]) ?_;clear hO;intro w9 hO;replace hf:=fa_ hO;(repeat (first|(apply zAG _ rfl rfl rfl;focus (intro w8 K8 hK8;(repeat (first | go_skip | go_guarded | go_step));exact hK8))|(apply zAJ _ rfl rfl rfl;focus (intro w8 hx8 K8 hK8;have hO:=hO.ext hx8;(replace hf:=fa_ hO);skip;(repeat (first | go_skip | go_guarded | go_step));exact hK8))|(apply zAL _ rfl;(focus (intro w8 hx8 K8 hK8;have hO:=hO.ext hx8;(replace hf:=fa_ hO);(repeat (first | go_skip | go_guarded | go_step | (go_at_call 115;(with_reducible refine Reads.use hO (HRD) tk_ ?_;intro w7 hx7 hO7;clear hO7;dsimp only))));(first | exact xt_ | exact hK8 _ xt_)));(focus (exact rfl));intro w8 hx8;replace hO:=hO.ext hx8;clear hx8;(replace hf:=fa_ hO)))));refine zAA ?_;go_wp2_with (refine sq_ ?_;clear hO hf;intro w9 hO hf);go_ret3;refine ⟨(),rfl,?_⟩;(try simp only [CA]);(refine Own.toEx (ca2,cc2,ra2,rc2) (Own.pack ?_);dsimp only;(try simp only [CA]);exact hO.cut sb_)
noncomputable def putN (C:List Ch) (c:Ch):Nat:=if chN c≠0 then chN c else if 12<(putC C c).length then 2 else 0
noncomputable def putL (C:List Ch) (c:Ch):List Ch:=if putN C c=0 then putC C c else C
theorem zKg (k:ByteArray):∀C:List Ch,(C.filter fun x=>slt x.key k).length+(C.filter fun x=>slt k x.key).length≤C.length
 | []=>Nat.le_refl _
 | x::l=>by
  have ih:=zKg k l;rw [List.filter_cons,List.filter_cons];cases h1:slt x.key k with
  | true=>rw [zBR h1];simp;omega
  | false=>cases h2:slt k x.key<;>simp<;>omega
theorem Own.rowCi {S:Nat→Prop} {W w:World} {l l':List Rs} {a:Option Addr} {n c:Nat} {C:List Ch} (h:Own S W w l) (hp:Pick l (Row2 142 3 a n c (chs C)) l'):Own S W w (.imm (fun w=>ChAt w a C)::l'):=
 Own.toImm (r:=Row2 142 3 a n c (chs C)) (φ:=fun w=>ChAt w a C) (fun w h=>h.1) (h.pick hp)
theorem zKX (q p since:Nat) (C:List Ch) (R:List Sp) (c:Ch) (hk:c.key.size≤300) (hv:c.val.size≤1000) (hC:C.length≤800) (hU:Ups C) {φ:World→Prop} (hφ:∀w,φ w→LibOk w) :
 Does Tryz.prog 116 #[.pointer (some ⟨q,0,none⟩),c.v] [ViewR q p since C R,.imm φ] (fun _:Unit=>(errV (putN C c),[ViewR q p since (putL C c) R,.imm φ])):=by
 have HK:=fun w h=>zAu c w h hk hv
 intro S W w L0 hO;simp only [CA] at hO;obtain ⟨ca,cc,ra,rc,hO⟩:=hO.ofView (C:=C) (R:=R) pk_;by_cases hn:chN c≠0
 ·have e1:putN C c=chN c:=by unfold putN;rw [if_pos hn]
  have e2:putL C c=C:=by unfold putL;rw [if_neg (by rw [e1];exact hn)]
  rw [e1,e2];clear e1 e2;unfold Ch.v at HK ⊢;generalize chN c=N at *;obtain ⟨N,rfl⟩:∃N',N=N'+1:=⟨N-1,by omega⟩
  rw [show errV (N+1)=.iface 124 (.int .i64 ((N+1:Nat):Int)) from rfl] at HK ⊢;(replace hf:=fa_ hO);go_enter Tryz.func116,Tryz.ntmps116;go_wp2_with (first|(go_at_call 149;(with_reducible apply Calls.mono (HK _ (hφ _ (Own.immOf (φ:=φ) hO pk_)));refine cu_ ?_;clear hO hf;intro w8 hO hf))|(refine sq_ ?_;clear hO hf;intro w9 hO hf));go_ret;refine ⟨(),rfl,?_⟩;(try simp only [CA]);(refine Own.toEx (ca,cc,ra,rc) (Own.pack ?_);dsimp only;(try simp only [CA]);exact hO.cut sb_)
 ·have hn0:chN c=0:=by omega
  rw [hn0,show errV 0=.nilIface from rfl] at HK;have HPT:=zRL ca C.length cc C c rfl (by omega) hU (φ:=fun w=>ChAt w ca C) fun _ h=>h
  have e0:putN C c=if 12<(putC C c).length then 2 else 0:=by unfold putN;rw [if_neg hn]
  have e9:putL C c=if putN C c=0 then putC C c else C:=rfl
  have hpl:(putC C c).length≤C.length+1:=by
   unfold putC low high;rw [List.length_append,List.length_cons];have h1:=zKg c.key C;omega
  generalize putC C c=C' at *;clear hn hn0;unfold Ch.v at HK HPT ⊢;by_cases h12:12<C'.length
  ·have e1:putN C c=2:=by rw [e0,if_pos h12]
   have e2:putL C c=C:=by rw [e9,e1];rfl
   rw [e1,e2,show errV 2=.iface 124 (.int .i64 2) from rfl];clear e1 e2 e0 e9;(replace hf:=fa_ hO);go_enter Tryz.func116,Tryz.ntmps116;go_wp2_with (first|(go_at_call 149;(with_reducible apply Calls.mono (HK _ (hφ _ (Own.immOf (φ:=φ) hO pk_)));refine cu_ ?_;clear hO hf;intro w8 hO hf))|(refine sq_ ?_;clear hO hf;intro w9 hO hf));(refine rg_ hO ((0,0)::(0,1)::(0,2)::(1,3)::(1,4)::(5,5)::(0,6)::[]) ?_;clear hO;intro w9 hO;replace hf:=fa_ hO;(refine ss_ hO ?_;clear hO hf;intro w9 hO hf));(refine zAE rfl ?_;intro K8 hK8;(repeat (first | go_skip | go_guarded | go_step));(go_at_call 200;(with_reducible apply Does.use hO (HPT);exact tk_;refine du_ ?_;clear hO hf;intro x9 w9 hO hf;(obtain ⟨pa,pc⟩:=x9;dsimp only at hO ⊢;(replace hf:=fa_ hO))));(repeat go_step);refine hK8 _ _ trivial ?_;clear hK8 K8);(refine ss_ hO ?_;clear hO hf;intro w9 hO hf);refine zAA ?_;go_wp2_with (refine sq_ ?_;clear hO hf;intro w9 hO hf);all_goals try (exfalso;omega;done)
   go_ret;refine ⟨(),rfl,?_⟩;(try simp only [CA]);(refine Own.toEx (ca,cc,ra,rc) (Own.pack ?_);dsimp only;(try simp only [CA]);exact hO.cut sb_)
  ·have e1:putN C c=0:=by rw [e0,if_neg h12]
   have e2:putL C c=C':=by rw [e9,e1];rfl
   rw [e1,e2,show errV 0=.nilIface from rfl];clear e1 e2 e0 e9;(replace hf:=fa_ hO);go_enter Tryz.func116,Tryz.ntmps116;go_wp2_with (first|(go_at_call 149;(with_reducible apply Calls.mono (HK _ (hφ _ (Own.immOf (φ:=φ) hO pk_)));refine cu_ ?_;clear hO hf;intro w8 hO hf))|(refine sq_ ?_;clear hO hf;intro w9 hO hf));(refine rg_ hO ((0,0)::(0,1)::(0,2)::(1,3)::(1,4)::(5,5)::(0,6)::[]) ?_;clear hO;intro w9 hO;replace hf:=fa_ hO;(refine ss_ hO ?_;clear hO hf;intro w9 hO hf));(refine zAE rfl ?_;intro K8 hK8;(repeat (first | go_skip | go_guarded | go_step));(go_at_call 200;(with_reducible apply Does.use hO (HPT);exact tk_;refine du_ ?_;clear hO hf;intro x9 w9 hO hf;(obtain ⟨pa,pc⟩:=x9;dsimp only at hO ⊢;(replace hf:=fa_ hO))));(repeat go_step);refine hK8 _ _ trivial ?_;clear hK8 K8);(refine ss_ hO ?_;clear hO hf;intro w9 hO hf);refine zAA ?_;go_wp2_with (refine sq_ ?_;clear hO hf;intro w9 hO hf);all_goals try (exfalso;omega;done)
   have hO:=hO.rowCi (a:=pa) (C:=C') pk_;go_ret;refine ⟨(),rfl,?_⟩;(try simp only [CA]);refine Own.toEx (pa,pc,ra,rc) (Own.pack ?_);dsimp only;(try simp only [CA]);exact hO.cut sb_
theorem zEH (q p since:Nat) (C:List Ch) (R:List Sp) (key val:ByteArray) (hk:key.size≤300) (hv:val.size≤1000) (hC:C.length≤800) (hU:Ups C) {φ:World→Prop} (hφ:∀w,φ w→LibOk w) :
 Does Tryz.prog 44 #[.pointer (some ⟨q,0,none⟩),.string key,.string val] [ViewR q p since C R,.imm φ] (fun _:Unit=>(errV (putN C ⟨key,val,false⟩),[ViewR q p since (putL C ⟨key,val,false⟩) R,.imm φ])):=by
 have HP:=zKX q p since C R ⟨key,val,false⟩ hk hv hC hU hφ;generalize putN C ⟨key,val,false⟩=N at *;generalize putL C ⟨key,val,false⟩=C' at *;unfold Ch.v at HP;generalize errV N=ev at *;intro S W w L0 hO;simp only [CA] at hO;(replace hf:=fa_ hO);go_enter Tryz.func44,Tryz.ntmps44;go_wp2_with (first|(go_at_call 116;(with_reducible apply Does.use hO (HP);exact tk_;refine du_ ?_;clear hO hf;intro x9 w9 hO hf))|(refine sq_ ?_;clear hO hf;intro w9 hO hf));go_ret;exact ⟨(),rfl,hO⟩
theorem zCW (q p since:Nat) (C:List Ch) (R:List Sp) (key:ByteArray) (hk:key.size≤300) (hC:C.length≤800) (hU:Ups C) {φ:World→Prop} (hφ:∀w,φ w→LibOk w) :
 Does Tryz.prog 93 #[.pointer (some ⟨q,0,none⟩),.string key] [ViewR q p since C R,.imm φ] (fun _:Unit=>(errV (putN C ⟨key,⟨#[]⟩,true⟩),[ViewR q p since (putL C ⟨key,⟨#[]⟩,true⟩) R,.imm φ])):=by
 have HP:=zKX q p since C R ⟨key,⟨#[]⟩,true⟩ hk (show (0:Nat)≤1000 by omega) hC hU hφ;generalize putN C ⟨key,⟨#[]⟩,true⟩=N at *;generalize putL C ⟨key,⟨#[]⟩,true⟩=C' at *;unfold Ch.v at HP;generalize errV N=ev at *;intro S W w L0 hO;simp only [CA] at hO;(replace hf:=fa_ hO);go_enter Tryz.func93,Tryz.ntmps93;go_wp2_with (first|(go_at_call 116;(with_reducible apply Does.use hO (HP);exact tk_;refine du_ ?_;clear hO hf;intro x9 w9 hO hf))|(refine sq_ ?_;clear hO hf;intro w9 hO hf));go_ret;exact ⟨(),rfl,hO⟩
theorem zIw (q p since:Nat) (C:List Ch) (R:List Sp) (hC:C.length≤1000) :
 Does Tryz.prog 202 #[.pointer (some ⟨q,0,none⟩)] [ViewR q p since C R] (fun x:Option Addr×Nat=>(.slice x.1 C.length x.2,[ViewR q p since C R,Row2 142 3 x.1 C.length x.2 (chs C)])):=by
 intro S W w L0 hO;simp only [CA] at hO;obtain ⟨ca,cc,ra,rc,hO⟩:=hO.ofView (C:=C) (R:=R) (.here _ _);have HCL:=zEY ca C.length cc C rfl hC (φ:=fun w=>ChAt w ca C) fun _ h=>h
 (replace hf:=fa_ hO);go_enter Tryz.func202,Tryz.ntmps202;go_wp2_with (first|(go_at_call 139;(with_reducible apply Does.use hO (HCL);exact tk_;refine du_ ?_;clear hO hf;intro x9 w9 hO hf;(obtain ⟨ma,mc⟩:=x9;dsimp only at hO ⊢;(replace hf:=fa_ hO))))|(refine sq_ ?_;clear hO hf;intro w9 hO hf));go_ret;refine ⟨(ma,mc),rfl,?_⟩;(try simp only [CA]);(refine Own.toEx (ca,cc,ra,rc) (Own.pack ?_);dsimp only;(try simp only [CA]);exact hO.cut sb_)
theorem zF2 (q p since:Nat) (C:List Ch) (R:List Sp) (hC:C.length≤1000) :
 Does Tryz.prog 61 #[.pointer (some ⟨q,0,none⟩)] [ViewR q p since C R] (fun x:Option Addr×Nat=>(.slice x.1 C.length x.2,[ViewR q p since C R,Row2 142 3 x.1 C.length x.2 (chs C)])):=by
 intro S W w L0 hO;simp only [CA] at hO;obtain ⟨ca,cc,ra,rc,hO⟩:=hO.ofView (C:=C) (R:=R) (.here _ _);have HCL:=zEY ca C.length cc C rfl hC (φ:=fun w=>ChAt w ca C) fun _ h=>h
 (replace hf:=fa_ hO);go_enter Tryz.func61,Tryz.ntmps61;go_wp2_with (first|(go_at_call 139;(with_reducible apply Does.use hO (HCL);exact tk_;refine du_ ?_;clear hO hf;intro x9 w9 hO hf;(obtain ⟨ma,mc⟩:=x9;dsimp only at hO ⊢;(replace hf:=fa_ hO))))|(refine sq_ ?_;clear hO hf;intro w9 hO hf));go_ret;refine ⟨(ma,mc),rfl,?_⟩;(try simp only [CA]);(refine Own.toEx (ca,cc,ra,rc) (Own.pack ?_);dsimp only;(try simp only [CA]);exact hO.cut sb_)
theorem zJF (q p since:Nat) (C:List Ch) (R:List Sp) (ma:Option Addr) (mc:Nat) (M:List Ch) (hM:M.length≤1000) :
 Does Tryz.prog 203 #[.pointer (some ⟨q,0,none⟩),.slice ma M.length mc] [ViewR q p since C R,.imm fun w=>ChAt w ma M] (fun _:Unit=>(.tuple #[],[ViewR q p since M R,.imm fun w=>ChAt w ma M])):=by
 intro S W w L0 hO;simp only [CA] at hO;obtain ⟨ca,cc,ra,rc,hO⟩:=hO.ofView (C:=C) (R:=R) (.here _ _);have HCL:=zEY ma M.length mc M rfl hM (φ:=fun w=>ChAt w ma M) fun _ h=>h
 (replace hf:=fa_ hO);go_enter Tryz.func203,Tryz.ntmps203;go_wp2_with (first|(go_at_call 139;(with_reducible apply Does.use hO (HCL);exact tk_;refine du_ ?_;clear hO hf;intro x9 w9 hO hf;(obtain ⟨na,nc⟩:=x9;dsimp only at hO ⊢;(replace hf:=fa_ hO))))|(refine sq_ ?_;clear hO hf;intro w9 hO hf));have hO:=hO.rowCi (a:=na) (C:=M) pk_;go_end0;refine ⟨(),rfl,?_⟩;(try simp only [CA]);(refine Own.toEx (na,nc,ra,rc) (Own.pack ?_);dsimp only;(try simp only [CA]);exact hO.cut sb_)
def idxR (l:List Rw) (k:ByteArray):Nat:=l.findIdx fun r=>!slt r.key k
def hitR (l:List Rw) (k:ByteArray):Bool:=(l[idxR l k]?).any fun r=>decide (r.key=k)
def offR (l:List Rw) (k:ByteArray):List Rw:=if hitR l k then l.eraseIdx (idxR l k) else l
def zFD (l:List Rw) (c:Ch):List Rw:=if c.gone then offR l c.key else insR (offR l c.key) (idxR l c.key) ⟨c.key,c.val⟩
theorem zJs {x:Rw} {l:List Rw} {k:ByteArray} (h:slt x.key k=true):idxR (x::l) k=idxR l k+1:=by
 unfold idxR;rw [List.findIdx_cons,h];rfl
theorem zOG {x:Rw} {l:List Rw} {k:ByteArray} (h:slt x.key k=false):idxR (x::l) k=0:=by
 unfold idxR;rw [List.findIdx_cons,h];rfl
theorem zJz (l:List Rw) (k:ByteArray):idxR l k≤l.length:=List.findIdx_le_length
theorem zTD {x:Rw} {l:List Rw} {k:ByteArray} (h:slt x.key k=true):hitR (x::l) k=hitR l k:=by
 unfold hitR;rw [zJs h,List.getElem?_cons_succ]
theorem zTF {x:Rw} {l:List Rw} {k:ByteArray} (h:slt x.key k=false):hitR (x::l) k=decide (x.key=k):=by
 unfold hitR;rw [zOG h];rfl
theorem zS5 {x:Rw} {l:List Rw} {k:ByteArray} (h:slt x.key k=true):offR (x::l) k=x::offR l k:=by
 unfold offR;rw [zTD h,zJs h];by_cases h1:hitR l k=true
 ·rw [if_pos h1,if_pos h1,List.eraseIdx_cons_succ]
 ·rw [if_neg h1,if_neg h1]
theorem zSP {x:Rw} {l:List Rw} {c:Ch} (h:slt x.key c.key=true):zFD (x::l) c=x::zFD l c:=by
 unfold zFD insR;rw [zS5 h,zJs h];by_cases h1:c.gone=true
 ·rw [if_pos h1,if_pos h1]
 ·rw [if_neg h1,if_neg h1,List.take_succ_cons,List.drop_succ_cons,List.cons_append]
theorem zFT {c:Ch}:∀{l:List Rw},(∀r∈l,r.key≠c.key)→appF c true l=l
 | [],_=>rfl
 | x::l,h=>by rw [zFN (h x (List.mem_cons_self ..)),zFT fun r hr=>h r (List.mem_cons_of_mem _ hr)]
theorem zG2 {l:List Rw} {k:ByteArray} (h:hitR l k=false):offR l k=l:=by unfold offR;rw [h];rfl
theorem zKR {c:Ch}:∀{l:List Rw},RUps l→zFD l c=appR l c
 | [],_=>by
  have h0:offR [] c.key=[]:=by unfold offR;split<;>rfl
  unfold zFD appR;cases hg:c.gone with
  | true=>rw [if_pos rfl,h0];rfl
  | false=>rw [if_neg (by simp),h0];rfl
 | x::l,h=>by
  have ih:=zKR (c:=c) h.tail;cases hx:slt x.key c.key with
  | true=>
   rw [zSP hx,ih];unfold appR;cases hg:c.gone with
   | true=>rw [zFN (zBr hx)]
   | false=>rw [zJt hx]
  | false=>
   have hgt:∀r∈l,r.key≠c.key:=fun r hr he=>by
    have h1:=h.head r hr;rw [he,hx] at h1;cases h1
   unfold zFD appR offR insR;rw [zTF hx,zOG hx];by_cases he:x.key=c.key
   ·rw [if_pos (decide_eq_true he),List.eraseIdx_cons_zero];cases hg:c.gone with
    | true=>rw [if_pos rfl,zJa he,zFT hgt]
    | false=>rw [if_neg (by simp),zJm hx he,zFT hgt];rfl
   ·rw [if_neg (show ¬decide (x.key=c.key)=true from fun h=>he (of_decide_eq_true h))];cases hg:c.gone with
    | true=>rw [if_pos rfl,zFN he,zFT hgt]
    | false=>rw [if_neg (by simp),zJr hx he,zFT hgt];rfl
theorem zTJ {l:List Rw} {k:ByteArray} (hi:idxR l k<l.length):hitR l k=decide (l[idxR l k].key=k):=by
 unfold hitR;rw [List.getElem?_eq_getElem hi];rfl
theorem zR4 {l:List Rw} {k:ByteArray} (hi:l.length≤idxR l k):hitR l k=false:=by
 unfold hitR;rw [List.getElem?_eq_none hi];rfl
theorem zQd {l:List Rw} {k:ByteArray} {i:Nat} (hi:i<idxR l k):∃h:i<l.length,slt l[i].key k=true:=by
 have h1:i<l.length:=Nat.lt_of_lt_of_le hi (zJz l k);refine ⟨h1,?_⟩;have h2:=List.not_of_lt_findIdx (p:=fun r:Rw=>!slt r.key k) (xs:=l) hi;simpa using h2
theorem zRa {l:List Rw} {k:ByteArray} (hi:idxR l k<l.length):slt l[idxR l k].key k=false:=by
 have h2:(!slt l[idxR l k].key k)=true:=List.findIdx_getElem (p:=fun r:Rw=>!slt r.key k) (xs:=l) (w:=hi);cases h3:slt l[idxR l k].key k with
 | true=>rw [h3] at h2;cases h2
 | false=>rfl
theorem zSj {l:List Rw} (h:RUps l) (lo hi:ByteArray) (c:Ch):inR lo hi (appR l c)=if hasB lo hi c.key=true then appR (inR lo hi l) c else inR lo hi l:=by
 have hi0:RUps (inR lo hi l):=List.Pairwise.filter _ h;have hm:∀(r:Rw) (L:List Rw),r∈inR lo hi L↔r∈L∧hasB lo hi r.key=true:=fun r L=>List.mem_filter
 by_cases hc:hasB lo hi c.key=true
 ·rw [if_pos hc];refine RUps.ext (List.Pairwise.filter _ (zBC h)) (zBC hi0) fun r=>?_
  unfold appR;rw [hm,zAi,zAi,hm];constructor
  ·rintro ⟨⟨h1,h2⟩ | ⟨h1,h2⟩,h3⟩
   ·exact .inl ⟨⟨h1,h3⟩,h2⟩
   ·exact .inr ⟨h1,h2⟩
  ·rintro (⟨⟨h1,h3⟩,h2⟩ | ⟨h1,h2⟩)
   ·exact ⟨.inl ⟨h1,h2⟩,h3⟩
   ·exact ⟨.inr ⟨h1,h2⟩,by rw [h2];exact hc⟩
 ·rw [if_neg hc];refine RUps.ext (List.Pairwise.filter _ (zBC h)) hi0 fun r=>?_
  unfold appR;rw [hm,zAi,hm];constructor
  ·rintro ⟨⟨h1,h2⟩ | ⟨h1,h2⟩,h3⟩
   ·exact ⟨h1,h3⟩
   ·rw [h2] at h3;exact absurd h3 hc
  ·rintro ⟨h1,h3⟩;exact ⟨.inl ⟨h1,fun he=>hc (by rw [←he];exact h3)⟩,h3⟩
def inC (lo hi:ByteArray) (C:List Ch):List Ch:=C.filter fun c=>hasB lo hi c.key
theorem zMn (lo hi:ByteArray):∀(C:List Ch) {l:List Rw},RUps l→inR lo hi (C.foldl appR l)=(inC lo hi C).foldl appR (inR lo hi l)
 | [],_,_=>rfl
 | c::C,l,h=>by
  rw [List.foldl_cons,zMn lo hi C (show RUps (appR l c) from zBC h),zSj h];unfold inC;rw [List.filter_cons];by_cases hc:hasB lo hi c.key=true
  ·rw [if_pos hc,if_pos hc,List.foldl_cons]
  ·rw [if_neg hc,if_neg hc]
theorem zSh {lo hi:ByteArray} {C:List Ch} {i:Nat} (h:i<C.length) (hh:hasB lo hi C[i].key=true):inC lo hi (C.take (i+1))=inC lo hi (C.take i)++[C[i]]:=by
 unfold inC;rw [List.take_add_one,List.getElem?_eq_getElem h,List.filter_append];simp [hh]
theorem zTe {lo hi:ByteArray} {C:List Ch} {i:Nat} (h:i<C.length) (hh:hasB lo hi C[i].key=false):inC lo hi (C.take (i+1))=inC lo hi (C.take i):=by
 unfold inC;rw [List.take_add_one,List.getElem?_eq_getElem h,List.filter_append];simp [hh]
def scnS (L:List Rw) (lo hi:ByteArray) (most:Int):Sp:=if most≤L.length then Sp.both ⟨lo,hi⟩ ⟨⟨#[]⟩,(L.getD (most.toNat-1) ⟨⟨#[]⟩,⟨#[]⟩⟩).key++nul⟩ else ⟨lo,hi⟩
def scnN (L:List Rw) (R:List Sp) (lo hi:ByteArray) (most:Int):Nat:=if most<1 then 1 else zAY R (scnS L lo hi most)
def scnO (L:List Rw) (R:List Sp) (lo hi:ByteArray) (most:Int):List Rw:=if scnN L R lo hi most=0 then L.take most.toNat else []
def scnB (L:List Rw) (R:List Sp) (lo hi:ByteArray) (most:Int):List Sp:=if most<1 then R else zA7 R (scnS L lo hi most)
theorem zGE {S:Nat→Prop} {W w:World} {L:List Rs} {G:World→Prop} {p:Addr} {v:Value} (hO:Own S W (w.setCell p v) L) (k:∀w',Own S W w' L→G w'):G (w.setCell p v):=k _ hO
theorem Own.rowSp {S:Nat→Prop} {W w:World} {l l':List Rs} {a:Option Addr} {n c:Nat} {xs:List Value} (h:Own S W w l) (hp:Pick l (Row2 98 2 a n c xs) l'):Own S W w (.imm (fun w=>ValsAt w a xs)::l'):=
 Own.toImm (r:=Row2 98 2 a n c xs) (φ:=fun w=>ValsAt w a xs) (fun w h=>h.1) (h.pick hp)
theorem zR6 (R:List Sp):∀u∈R.flatMap spC,u.oneCell'=true:=fun u hu=>by
 obtain ⟨x,_,hx⟩:=List.mem_flatMap.1 hu;simp [spC] at hx;rcases hx with rfl | rfl<;>rfl
noncomputable def getG (y:ByteArray×Bool) (C:List Ch) (R:List Sp) (k:ByteArray):ByteArray×Bool×Nat:=
 if keyN k≠0 then (⟨#[]⟩,false,keyN k) else match zCS C k with
  | some c=>(c.val,!c.gone,0)
  | none=>if zAY R (Sp.point k)≠0 then (⟨#[]⟩,false,zAY R (Sp.point k)) else (y.1,y.2,0)
theorem zIu (V:List (ByteArray×List Vn)) (since:Nat) (C:List Ch) (R:List Sp) (k:ByteArray):getA V since C R k=getG (zAU V k since) C R k:=rfl
theorem zOl (a:Option Addr) (n c:Nat) (l:List Sp) (hl:l.length=n) (hn:n≤1000) :
 Does Tryz.prog 148 #[.slice a n c] [Row2 98 2 a n c (l.flatMap spC)] (fun x:Option Addr×Nat=>(.slice x.1 n x.2,[Row2 98 2 x.1 n x.2 (l.flatMap spC),Row2 98 2 a n c (l.flatMap spC)])):=by
 obtain ⟨iS,hiS,hzS,hsS,hbS⟩:=info_parts Tryz.infoSp;have HFL:=Lib.hid (zEz spC 2 (fun _=>rfl) l);intro S W w L0 hO;simp only [CA] at hO;(replace hf:=fa_ hO);have hu:=Tryz.underlying37;cases a with
 | none=>
  obtain ⟨h0,h1⟩:=hO.rowNil (.here _ _);subst h0 h1;have h0:=List.length_eq_zero_iff.1 hl;subst h0;go_enter Tryz.func148,Tryz.ntmps148;go_wp2_with (refine sq_ ?_;clear hO;(try clear hf);intro w9 hO hf);go_ret;refine ⟨(none,0),rfl,?_⟩;exact hO.nil _ _
 | some ad=>
  subst hl;go_enter Tryz.func148,Tryz.ntmps148;go_wp2_with (first|(at_builtin;(have hO9:=hO.pick (r:=Var _ [] 98) pk_;replace hO:=Own.varRow (n:=0) (size:=2) rfl (by simp [maxLen]) hO9;clear hO9;refine zDA hO pk_ rfl (.tmp 5) (.tmp 6) 37 rfl iS _ 32 Tryz.underlying37 hiS hzS hsS hbS rfl (by omega) rfl (some ad) l.length _ (l.flatMap spC) rfl HFL.out (rowV (hO.factOf (r:=Row2 98 2 (some ad) l.length c (l.flatMap spC)) pk_)) (zR6 l) (by unfold maxLen;omega) (by omega) ?_;clear hO;intro ka9 kc9 w9 hO;(replace hf:=fa_ hO)))|(refine sq_ ?_;clear hO;(try clear hf);intro w9 hO hf));go_ret;refine ⟨(ka9,kc9),by simp,?_⟩;simp only [Nat.zero_add,List.nil_append] at hO;exact hO.give tk_ kp_
theorem zNW (q p since:Nat) (C:List Ch) (R:List Sp) (hR:R.length≤1000) :
 Does Tryz.prog 70 #[.pointer (some ⟨q,0,none⟩)] [ViewR q p since C R] (fun x:Option Addr×Nat=>(.slice x.1 R.length x.2,[ViewR q p since C R,.imm (fun w=>ValsAt w x.1 (R.flatMap spC))])):=by
 intro S W w L0 hO;simp only [CA] at hO;obtain ⟨ca,cc,ra,rc,hO⟩:=hO.ofView (C:=C) (R:=R) (.here _ _);have HCL:=zOl ra R.length rc R rfl hR;(replace hf:=fa_ hO);go_enter Tryz.func70,Tryz.ntmps70;go_wp2_with (first|(go_at_call 148;(with_reducible apply Does.use hO (HCL);exact tk_;refine du_ ?_;clear hO hf;intro x9 w9 hO hf;(obtain ⟨na,nc⟩:=x9;dsimp only at hO ⊢;(replace hf:=fa_ hO))))|(refine sq_ ?_;clear hO hf;intro w9 hO hf));have hO:=hO.rowSp (a:=na) (c:=nc) pk_;have hO:=hO.toView (C:=C) (R:=R) tk_;go_ret;refine ⟨(na,nc),rfl,?_⟩;(try simp only [CA]);exact hO.cut sb_
theorem zCs (q p since:Nat) (C:List Ch) (R:List Sp):Reads Tryz.prog 68 #[.pointer (some ⟨q,0,none⟩)] [ViewR q p since C R] (.int .i64 since):=by
 intro w L0 hO;simp only [FZ] at hO;obtain ⟨⟨ca,cc,ra,rc⟩,hO⟩:=hO.frzEx;replace hO:=hO.frzMany;dsimp only at hO;simp only [FZ] at hO;(replace hf:=fa_ hO);go_enter Tryz.func68,Tryz.ntmps68;go_wp2_with (refine sq_ ?_;clear hO hf;intro w9 hO hf);go_ret;exact ⟨rfl,hO.toExt⟩
theorem zKV (x:Rw) (k:ByteArray) (c:Addr) (w:World) (hc:w.cell? c=some (.string k)) :
 Calls Tryz.prog 134 #[.agg #[.string x.key,.string x.val],.pointer (some c)] w fun e w'=>e=.returned (.bool (!slt x.key k))∧Ext w w':=by
 go_enter Tryz.func134,Tryz.ntmps134;have hc2:=((Ext.refl w).alloc (.cells #[.string x.key,.string x.val] 177)).some hc;go_wp2;go_ret;refine ⟨zBP ?_,(Ext.refl _).alloc _⟩;simp [slt]
def idxI (l:List Rw) (k:ByteArray):Int:=if idxR l k<l.length then (idxR l k:Int) else -1
theorem zM6 {l:List Rw} {k:ByteArray} (h:idxR l k<l.length):idxI l k=idxR l k:=if_pos h
theorem zMK {l:List Rw} {k:ByteArray} (h:l.length≤idxR l k):idxI l k=-1:=if_neg (by omega)
theorem zOz (a:Option Addr) (n c:Nat) (l:List Rw) (k:ByteArray) (g:Addr) (w:World) (hl:l.length=n) (hn:n≤100000) (hA:ValsAt w a (l.flatMap rwC)) (hc:w.cell? g=some (.string k)) :
 Calls Tryz.prog 133 #[.slice a n c,.func (.func 134) #[] #[.pointer (some g)]] w fun e w'=>e=.returned (.int .i64 (idxI l k))∧Ext w w':=by
 have hO:Own (fun _=>False) w w [.imm fun w=>ValsAt w a (l.flatMap rwC)∧w.cell? g=some (.string k)]:=Own.base w _ fun w' hw'=>⟨zDb hA hw',by
  have hlt:g.block<w.heap.size:=block_lt_of_cell hc;rw [World.cell?_of_block (w:=w) (hw' _ hlt)];exact hc⟩
 have hle:=zJz l k;(replace hf:=fa_ hO);go_enter Tryz.func133,Tryz.ntmps133;go_wp2_with (refine sq_ ?_;clear hO hf;intro w9 hO hf);have hO9:=hO;clear hO hf;go_loopw [8] (fun v wr=>∃j:Nat,v=.int .i64 j∧j≤idxR l k∧Own (fun _=>False) w wr [.imm fun w=>ValsAt w a (l.flatMap rwC)∧w.cell? g=some (.string k)]) (fun v _=>n-(intOf v).toNat)
 case atStart=>exact ⟨0,rfl,by omega,hO9.cut sb_⟩
 case round=>
  clear hO9;obtain ⟨j,rfl,hj,hO⟩:=hrel;rename World=>w0
  (replace hf:=fa_ hO);by_cases hlt:j<n
  ·have hj2:j<l.length:=by omega
   obtain ⟨b,off,rfl⟩:=zDT hf.1 hj2;have hcy:=fun w (h:ValsAt w (some ⟨b,off,none⟩) (l.flatMap rwC))=>zCO h hj2
   by_cases hje:j=idxR l k
   ·have hs:=zRa (l:=l) (k:=k) (by omega);subst hje;have hS:=fun w h=>zKV l[idxR l k] k g w h
    rw [hs] at hS;have e1:idxI l k=idxR l k:=zM6 (by omega);replace e1:=Lib.hid e1;generalize l[idxR l k]=x at *;obtain ⟨q,hq⟩:∃q,idxR l k=q:=⟨_,rfl⟩
    rw [hq] at e1 hlt hj2 hcy ⊢;replace hq:=Lib.hid hq;obtain ⟨xk,xv⟩:=x;dsimp only at hcy hS;obtain ⟨c0,c1⟩:=hcy _ hf.1;go_wp2_with (first|(go_at_call 134;(with_reducible apply Calls.mono (hS _ (Own.immOf (φ:=fun w=>ValsAt w (some ⟨b,off,none⟩) (l.flatMap rwC)∧w.cell? g=some (.string k)) hO pk_).2);refine cu_ ?_;clear hO;(try clear hf);intro w8 hO hf))|(refine sq_ ?_;clear hO;(try clear hf);intro w9 hO hf));go_ret;exact ⟨by rw [e1.out];rfl,hO.toExt⟩
   ·obtain ⟨_,hs⟩:=zQd (l:=l) (k:=k) (i:=j) (by omega);have hS:=fun w h=>zKV l[j] k g w h
    rw [hs] at hS;generalize l[j]=x at *;obtain ⟨xk,xv⟩:=x;dsimp only at hcy hS;obtain ⟨c0,c1⟩:=hcy _ hf.1;go_wp2_with (first|(go_at_call 134;(with_reducible apply Calls.mono (hS _ (Own.immOf (φ:=fun w=>ValsAt w (some ⟨b,off,none⟩) (l.flatMap rwC)∧w.cell? g=some (.string k)) hO pk_).2);refine cu_ ?_;clear hO;(try clear hf);intro w8 hO hf))|(refine sq_ ?_;clear hO;(try clear hf);intro w9 hO hf));exact ⟨⟨j+1,by go_num,by omega,hO.cut sb_⟩,by simp [intOf];omega⟩
  ·have e1:idxI l k=-1:=zMK (by omega);replace e1:=Lib.hid e1;go_wp2_with (refine sq_ ?_;clear hO;(try clear hf);intro w9 hO hf);go_ret;exact ⟨by rw [e1.out];rfl,hO.toExt⟩
