/- Texts View5, RView2, ViewSays, Views, ViewLaw, Q1, Q2, Q3, Q4, Q5, Q6, Q15, Q16, Q17, Q18, Sd5, St16, St17, St18, St19, St20, St21, St22, StoreL, TopSave of this claim, laid together. -/
import Derived.Test.YtagcmjmcjpjihaaGreatDoorHC35
set_option linter.unusedVariables false
set_option linter.unusedSimpArgs false
set_option maxHeartbeats 8000000
set_option maxRecDepth 100000
namespace Go.Proofs.YtagcmjmcjpjihaaGreatDoor
open Go.RowKit
@[go_sem] theorem zSt (a b:ByteArray) (w:World):(Instr.field 98 (.agg #[.string a,.string b]) 1).run Tryz.prog w=.ok (.string b) w:=by kernel_rfl
theorem zRP {L:List Rw} {k:Nat} (lo hi:ByteArray) (h1:1≤k) (h2:k≤L.length):scnS L lo hi k=Sp.both ⟨lo,hi⟩ ⟨⟨#[]⟩,(L[k-1]'(by omega)).key++nul⟩:=by
 unfold scnS;rw [if_pos (by omega),show (k:Int).toNat-1=k-1 from by omega,List.getD_eq_getElem?_getD,List.getElem?_eq_getElem (by omega)];rfl
theorem zRB {L:List Rw} {most:Int} (lo hi:ByteArray) (h:(L.length:Int)<most):scnS L lo hi most=⟨lo,hi⟩:=by
 unfold scnS;rw [if_neg (by omega)]
theorem zIq {L:List Rw} {R:List Sp} {lo hi:ByteArray} {most:Int} {s:Sp} (h1:1≤most) (hs:scnS L lo hi most=s):scnN L R lo hi most=zAY R s∧scnB L R lo hi most=zA7 R s∧scnO L R lo hi most=if zAY R s=0 then L.take most.toNat else []:=by
 have e:scnN L R lo hi most=zAY R s:=by unfold scnN;rw [if_neg (by omega),hs]
 refine ⟨e,?_,?_⟩
 ·unfold scnB;rw [if_neg (by omega),hs]
 ·unfold scnO;rw [e]
theorem zSg {L:List Rw} {R:List Sp} (lo hi:ByteArray) {most:Int} (h:most<1):scnN L R lo hi most=1∧scnB L R lo hi most=R∧scnO L R lo hi most=[]:=by
 have e:scnN L R lo hi most=1:=by unfold scnN;rw [if_pos h]
 refine ⟨e,?_,?_⟩
 ·unfold scnB;rw [if_pos h]
 ·unfold scnO;rw [e];rfl
theorem zEn:∀{C:List Ch} {l:List Rw},RUps l→RUps (C.foldl appR l)
 | [],_,h=>h
 | c::C,l,h=>zEn (C:=C) (l:=appR l c) (zBC h)
theorem zO0 (q p since nn:Nat) (V:List (ByteArray×List Vn)) (C:List Ch) (R:List Sp) (lo hi:ByteArray) (most:Int) (hm:most<1) :
 Does Tryz.prog 56 #[.pointer (some ⟨q,0,none⟩),.agg #[.string lo,.string hi],.int .i64 most] [ViewR q p since C R,VerR p nn V]
  (fun _:Unit=>(.tuple #[.slice none 0 0,errV 1],[ViewR q p since C R,VerR p nn V])):=by
 rw [show errV 1=.iface 124 (.int .i64 1) from rfl];intro S W w L0 hO;simp only [CA] at hO;(replace hf:=fa_ hO);go_enter Tryz.func56,Tryz.ntmps56;go_wp2_with (refine sq_ ?_;clear hO hf;intro w9 hO hf);go_ret2;refine ⟨(),rfl,?_⟩;(try simp only [CA]);exact hO.cut sb_
theorem zQj (q p since nn:Nat) (V:List (ByteArray×List Vn)) (C:List Ch) (R:List Sp) (lo hi:ByteArray) (most:Int) (L:List Rw) (hL:(inC lo hi C).foldl appR (zBm V (hasB lo hi) since)=L)
 (hnd:(V.map (·.1)).Nodup) (hC:C.length≤1000) (hR:R.length≤40) (hVl:V.length≤50000) (hV:∀e∈V,e.2.length≤100000) (hks:∀r∈L,r.key.size≤300) (h1:1≤most) :
 Does Tryz.prog 56 #[.pointer (some ⟨q,0,none⟩),.agg #[.string lo,.string hi],.int .i64 most] [ViewR q p since C R,VerR p nn V]
  (fun x:Option Addr×Nat=>(.tuple #[.slice x.1 (scnO L R lo hi most).length x.2,errV (scnN L R lo hi most)],[ViewR q p since C (scnB L R lo hi most),VerR p nn V,Row2 177 2 x.1 (scnO L R lo hi most).length x.2 ((scnO L R lo hi most).flatMap rwC)])):=by
 have HSC:=zOp p nn V lo hi since (by omega) hV;have hbase:=zGi hnd (hasB lo hi) since;have hblen:=zQx V (hasB lo hi) since;generalize zBm V (hasB lo hi) since=B at *;have HL:=Lib.hid hL;have HKS:=Lib.hid hks;have HB:=Lib.hid hbase;clear hL hks hbase hnd hV;intro S W w L0 hO;simp only [CA] at hO;obtain ⟨ca,cc,ra,rc,hO⟩:=hO.ofView (C:=C) (R:=R) (.here _ _);(replace hf:=fa_ hO);go_enter Tryz.func56,Tryz.ntmps56;go_wp2_with (refine sq_ ?_;clear hO hf;intro w9 hO hf);(refine rg_ hO ((0,0)::(0,1)::(0,2)::(1,3)::(1,4)::(0,5)::(0,6)::(0,7)::(1,8)::(5,9)::(0,10)::[]) ?_;clear hO;intro w9 hO;replace hf:=fa_ hO;(refine ss_ hO ?_;clear hO hf;intro w9 hO hf));(refine zAE rfl ?_;intro K8 hK8;(repeat (first | go_skip | go_guarded | go_step));(go_at_call 131;(with_reducible apply Does.use hO (HSC);exact tk_;refine du_ ?_;clear hO hf;intro x9 w9 hO hf;(obtain ⟨ba,bc⟩:=x9;dsimp only at hO ⊢;(replace hf:=fa_ hO))));(repeat go_step);refine hK8 _ _ trivial ?_;clear hK8 K8);(refine ss_ hO ?_;clear hO hf;intro w9 hO hf);refine zAA ?_;go_wp2_with (refine sq_ ?_;clear hO hf;intro w9 hO hf);obtain ⟨g,hg9⟩:=(hO.pick (r:=Var _ [.string lo,.string hi] 98) pk_).named;rw [←hg9];rw [←hg9] at hO;clear hg9;have hO9:=hO;clear hO hf HSC;go_loopw [8,31] (fun v8 v31 wr=>∃(j on oc:Nat) (oa:Option Addr) (O:List Rw),v8=.slice oa on oc∧v31=.int .i64 j∧j≤C.length∧on≤50000+j∧Hid (O.length=on)∧Hid (O=(inC lo hi (C.take j)).foldl appR B)∧Own S W wr ([Var g [.string lo,.string hi] 98,Var q [.pointer (some ⟨p,0,none⟩),.int .i64 since,.slice ca C.length cc,.slice ra R.length rc] 189,.imm (fun w=>ChAt w ca C),Row2 98 2 ra R.length rc (R.flatMap spC),VerR p nn V,Row2 177 2 oa on oc (O.flatMap rwC)]++L0)) (fun _ v _=>C.length-(intOf v).toNat)
 case atStart=>exact ⟨0,B.length,bc,ba,B,rfl,rfl,by omega,by omega,Lib.hid rfl,Lib.hid (by rw [List.take_zero];rfl),by (try simp only [CA]);exact hO9.cut sb_⟩
 case round=>
  clear hO9;obtain ⟨j,on,oc,oa,O,rfl,rfl,hj,hon,HOn,HO,hO⟩:=hrel;rename World=>w1
  simp only [CA] at hO;(replace hf:=fa_ hO);by_cases hlt:j<C.length
  ·obtain ⟨b,off,rfl⟩:=ChAt.some (a:=ca) (hO.immOf (φ:=fun w=>ChAt w ca C) pk_) (by omega);obtain ⟨c0,c1,c2⟩:=ChAt.at (b:=b) (off:=off) (hO.immOf (φ:=fun w=>ChAt w (some ⟨b,off,none⟩) C) pk_) hlt;cases hh:hasB lo hi C[j].key with
   | false=>
    have e1:=Lib.hid (HO.out.trans (by rw [zTe hlt hh]:(inC lo hi (C.take j)).foldl appR B=(inC lo hi (C.take (j+1))).foldl appR B));have HH:=fun w=>zIB lo hi C[j].key w
    rw [hh] at HH;clear HO hh;generalize C[j]=c at *;obtain ⟨ck,cv,cg⟩:=c;dsimp only at *;go_wp2_with (first|(go_at_call 132;(with_reducible apply Calls.mono (HH _);refine cu_ ?_;clear hO;(try clear hf);intro w8 hO hf))|(refine sq_ ?_;clear hO;(try clear hf);intro w9 hO hf));refine ⟨⟨j+1,on,oc,oa,O,rfl,by go_num,by omega,by omega,HOn,e1,?_⟩,by simp [intOf];omega⟩;(try simp only [CA]);exact hO.cut sb_
   | true=>
    have HUO:RUps O:=by rw [HO.out];exact zEn HB.out
    have e1:=Lib.hid (show (inC lo hi (C.take (j+1))).foldl appR B=appR O C[j] by rw [zSh hlt hh,List.foldl_append,←HO.out];rfl);have e2:=Lib.hid (zKR (c:=C[j]) HUO);have HH:=fun w=>zIB lo hi C[j].key w
    rw [hh] at HH;clear HUO HO hh;generalize C[j]=c at *;obtain ⟨ck,cv,cg⟩:=c;dsimp only at *;have HX:=fun a c' g w h1 h2=>zOz a on c' O ck g w HOn.out (by omega) h1 h2
    have hie:=zJz O ck;rw [HOn.out] at hie;go_upto_region 8 with (first|(go_at_call 132;(with_reducible apply Calls.mono (HH _);refine cu_ ?_;clear hO;(try clear hf);intro w8 hO hf))|(refine sq_ ?_;clear hO;(try clear hf);intro w9 hO hf))
    obtain ⟨gc,hg9⟩:=(hO.pick (r:=Var _ [.string ck,.string cv,.bool cg] 142) pk_).named;rw [←hg9];rw [←hg9] at hO;clear hg9;(replace hf:=fa_ hO);by_cases hi2:idxR O ck<on
    ·have hii:=zM6 (l:=O) (k:=ck) (by rw [HOn.out];exact hi2);rw [hii] at HX;clear hii;obtain ⟨g0,rfl,_⟩:=hO.rowAt (e:=177) (size:=2) (a:=oa) (n:=on) (cap:=oc) (xs:=O.flatMap rwC) pk_ (by omega);have hi3:idxR O ck<O.length:=by rw [HOn.out];exact hi2
     have hcy:=fun w (h:ValsAt w (some ⟨g0,0,none⟩) (O.flatMap rwC))=>zCO h hi3
     simp only [Nat.zero_add] at hcy;have hat:=zTJ hi3;cases hit:hitR O ck with
     | true=>
      rw [hit] at hat;have hk:O[idxR O ck].key=ck:=of_decide_eq_true hat.symm;obtain ⟨O1,hO1⟩:∃O1,O1=offR O ck:=⟨_,rfl⟩
      have e3:O1=O.eraseIdx (idxR O ck):=by rw [hO1];unfold offR;rw [if_pos hit]
      obtain ⟨n1,rfl⟩:∃n1,on=n1+1:=⟨on-1,by omega⟩
      have HN1:=Lib.hid (show O1.length=n1 by rw [e3,List.length_eraseIdx,if_pos hi3,HOn.out];omega);have HDL:=fun c=>zNG g0 n1 c (idxR O ck) O HOn.out (by omega) (by omega)
      rw [←e3] at HDL;clear e3 hat hit;have E2:Hid (appR O ⟨ck,cv,cg⟩=if cg=true then O1 else insR O1 (idxR O ck) ⟨ck,cv⟩):=Lib.hid (by rw [←e2.out,hO1];rfl);clear e2 hO1;generalize O[idxR O ck]=x at *;generalize idxR O ck=i at *;obtain ⟨xk,xv⟩:=x;dsimp only at hcy hk;replace hk:=hk.symm;subst hk;go_upto_region 11 with (first|(go_at_call 133;(with_reducible apply Calls.mono (HX _ _ _ _ (rowV (hO.factOf (r:=Row2 177 2 (some ⟨g0,0,none⟩) (n1+1) oc (O.flatMap rwC)) pk_)) (hO.varAt (b:=gc) (k:=0) (v:=.string ck) (cs:=[.string ck,.string cv,.bool cg]) (t:=142) pk_ rfl));refine cu_ ?_;clear hO;(try clear hf);intro w8 hO hf))|(refine sq_ ?_;clear hO;(try clear hf);intro w9 hO hf))
      (refine rg_ hO ((0,0)::(0,1)::(1,2)::(0,3)::(0,4)::(0,5)::(0,6)::(0,7)::(0,8)::(1,9)::(0,10)::(1,11)::(0,12)::(0,13)::[]) ?_;clear hO;intro w9 hO;replace hf:=fa_ hO;(repeat (first|(apply zAG _ rfl rfl rfl;focus (intro w8 K8 hK8;(repeat (first | go_skip | go_guarded | go_step));exact hK8))|(apply zAJ _ rfl rfl rfl;focus (intro w8 hx8 K8 hK8;have hO:=hO.ext hx8;(replace hf:=fa_ hO);obtain ⟨d0,d1⟩:=hcy _ (rowV (hO.factOf (r:=Row2 177 2 (some ⟨g0,0,none⟩) (n1+1) oc (O.flatMap rwC)) pk_));(repeat (first | go_skip | go_guarded | go_step));exact hK8))|(apply zAL _ rfl;(focus (intro w8 hx8 K8 hK8;have hO:=hO.ext hx8;(replace hf:=fa_ hO);(repeat (first | go_skip | go_guarded | go_step | fail));(first | exact xt_ | exact hK8 _ xt_)));(focus (exact rfl));intro w8 hx8;replace hO:=hO.ext hx8;clear hx8;(replace hf:=fa_ hO)))));refine zAA ?_;have HIN:∀(a:Option Addr) (c g vc:Nat),Does Tryz.prog 136 #[.slice a n1 c,.int .i64 i,.slice (some ⟨g,0,none⟩) 1 vc] [Row2 177 2 a n1 c (O1.flatMap rwC),Var g [.string ck,.string cv] 177] (fun p:Option Addr×Nat=>(.slice p.1 (n1+1) p.2,[Row2 177 2 p.1 (n1+1) p.2 ((insR O1 i ⟨ck,cv⟩).flatMap rwC)])):=fun a c g vc=>zEx a n1 c g vc i O1 ⟨ck,cv⟩ HN1.out (by omega) (by omega)
      have HIL:=Lib.hid (zFM O1 i ⟨ck,cv⟩ (by rw [HN1.out];omega));cases cg with
      | true=>
       go_wp2_with (first|(go_at_call 135;(with_reducible apply Does.use hO (HDL _);exact tk_;refine du_ ?_;clear hO;(try clear hf);intro x9 w9 hO hf))|(refine sq_ ?_;clear hO;(try clear hf);intro w9 hO hf));refine ⟨⟨j+1,n1,oc,(some ⟨g0,0,none⟩),O1,rfl,by go_num,by omega,by omega,HN1,Lib.hid (e1.out.trans (E2.out.trans (if_pos rfl))).symm,?_⟩,by simp [intOf];omega⟩;(try simp only [CA]);exact hO.cut sb_
      | false=>
       go_wp2_with (first|(go_at_call 135;(with_reducible apply Does.use hO (HDL _);exact tk_;refine du_ ?_;clear hO;(try clear hf);intro x9 w9 hO hf))|(go_at_call 136;(with_reducible apply Does.use hO (HIN _ _ _ _);exact tk_;refine du_ ?_;clear hO;(try clear hf);intro x9 w9 hO hf;(obtain ⟨pa,pc⟩:=x9;dsimp only at hO ⊢;(replace hf:=fa_ hO))))|(refine sq_ ?_;clear hO;(try clear hf);intro w9 hO hf));refine ⟨⟨j+1,n1+1,pc,pa,insR O1 i ⟨ck,cv⟩,rfl,by go_num,by omega,by omega,Lib.hid (by rw [HIL.out,HN1.out]),Lib.hid (e1.out.trans (E2.out.trans (if_neg Bool.false_ne_true))).symm,?_⟩,by simp [intOf];omega⟩;(try simp only [CA]);exact hO.cut sb_
     | false=>
      rw [hit] at hat;have hk:¬O[idxR O ck].key=ck:=of_decide_eq_false hat.symm;have hk2:¬O[idxR O ck].key.toList=ck.toList:=fun h=>hk (zBH h)
      have hk3:(O[idxR O ck].key.toList==ck.toList)=false:=by simpa using hk2
      have HN1:=HOn;have E2:Hid (appR O ⟨ck,cv,cg⟩=if cg=true then O else insR O (idxR O ck) ⟨ck,cv⟩):=Lib.hid (by rw [←e2.out,←zG2 hit];unfold zFD;rw [zG2 hit,zG2 hit]);clear e2 hat hit;obtain ⟨O1,hO1⟩:∃O1,O1=O:=⟨_,rfl⟩
      generalize O[idxR O ck]=x at *;generalize idxR O ck=i at *;obtain ⟨xk,xv⟩:=x;dsimp only at hcy hk hk2 hk3;subst hO1;go_upto_region 11 with (first|(go_at_call 133;(with_reducible apply Calls.mono (HX _ _ _ _ (rowV (hO.factOf (r:=Row2 177 2 (some ⟨g0,0,none⟩) on oc (O1.flatMap rwC)) pk_)) (hO.varAt (b:=gc) (k:=0) (v:=.string ck) (cs:=[.string ck,.string cv,.bool cg]) (t:=142) pk_ rfl));refine cu_ ?_;clear hO;(try clear hf);intro w8 hO hf))|(refine sq_ ?_;clear hO;(try clear hf);intro w9 hO hf))
      (refine rg_ hO ((0,0)::(0,1)::(1,2)::(0,3)::(0,4)::(0,5)::(0,6)::(0,7)::(0,8)::(1,9)::(0,10)::(1,11)::(0,12)::(0,13)::[]) ?_;clear hO;intro w9 hO;replace hf:=fa_ hO;(repeat (first|(apply zAG _ rfl rfl rfl;focus (intro w8 K8 hK8;(repeat (first | go_skip | go_guarded | go_step));exact hK8))|(apply zAJ _ rfl rfl rfl;focus (intro w8 hx8 K8 hK8;have hO:=hO.ext hx8;(replace hf:=fa_ hO);obtain ⟨d0,d1⟩:=hcy _ (rowV (hO.factOf (r:=Row2 177 2 (some ⟨g0,0,none⟩) on oc (O1.flatMap rwC)) pk_));(repeat (first | go_skip | go_guarded | go_step));exact hK8))|(apply zAL _ rfl;(focus (intro w8 hx8 K8 hK8;have hO:=hO.ext hx8;(replace hf:=fa_ hO);(repeat (first | go_skip | go_guarded | go_step | fail));(first | exact xt_ | exact hK8 _ xt_)));(focus (exact rfl));intro w8 hx8;replace hO:=hO.ext hx8;clear hx8;(replace hf:=fa_ hO)))));refine zAA ?_;have HIN:∀(a:Option Addr) (c g vc:Nat),Does Tryz.prog 136 #[.slice a on c,.int .i64 i,.slice (some ⟨g,0,none⟩) 1 vc] [Row2 177 2 a on c (O1.flatMap rwC),Var g [.string ck,.string cv] 177] (fun p:Option Addr×Nat=>(.slice p.1 (on+1) p.2,[Row2 177 2 p.1 (on+1) p.2 ((insR O1 i ⟨ck,cv⟩).flatMap rwC)])):=fun a c g vc=>zEx a on c g vc i O1 ⟨ck,cv⟩ HN1.out (by omega) (by omega)
      have HIL:=Lib.hid (zFM O1 i ⟨ck,cv⟩ (by rw [HN1.out];omega));cases cg with
      | true=>
       go_wp2_with (first | fail | (refine sq_ ?_;clear hO;(try clear hf);intro w9 hO hf));refine ⟨⟨j+1,on,oc,(some ⟨g0,0,none⟩),O1,rfl,by go_num,by omega,by omega,HN1,Lib.hid (e1.out.trans (E2.out.trans (if_pos rfl))).symm,?_⟩,by simp [intOf];omega⟩;(try simp only [CA]);exact hO.cut sb_
      | false=>
       go_wp2_with (first | fail | (go_at_call 136;(with_reducible apply Does.use hO (HIN _ _ _ _);exact tk_;refine du_ ?_;clear hO;(try clear hf);intro x9 w9 hO hf;(obtain ⟨pa,pc⟩:=x9;dsimp only at hO ⊢;(replace hf:=fa_ hO))))|(refine sq_ ?_;clear hO;(try clear hf);intro w9 hO hf));refine ⟨⟨j+1,on+1,pc,pa,insR O1 i ⟨ck,cv⟩,rfl,by go_num,by omega,by omega,Lib.hid (by rw [HIL.out,HN1.out]),Lib.hid (e1.out.trans (E2.out.trans (if_neg Bool.false_ne_true))).symm,?_⟩,by simp [intOf];omega⟩;(try simp only [CA]);exact hO.cut sb_
    ·have hii:=zMK (l:=O) (k:=ck) (by rw [HOn.out];omega);rw [hii] at HX;have hit:=zR4 (l:=O) (k:=ck) (by rw [HOn.out];omega);have hio:idxR O ck=on:=by omega
     have HN1:=HOn;have E2:Hid (appR O ⟨ck,cv,cg⟩=if cg=true then O else insR O on ⟨ck,cv⟩):=Lib.hid (by rw [←e2.out,←hio];unfold zFD;rw [zG2 hit]);clear e2 hit hii hio hi2 hie;obtain ⟨i,hi⟩:∃i,i=on:=⟨_,rfl⟩
     obtain ⟨O1,hO1⟩:∃O1,O1=O:=⟨_,rfl⟩
     subst hO1;go_upto_region 11 with (first|(go_at_call 133;(with_reducible apply Calls.mono (HX _ _ _ _ (rowV (hO.factOf (r:=Row2 177 2 oa on oc (O1.flatMap rwC)) pk_)) (hO.varAt (b:=gc) (k:=0) (v:=.string ck) (cs:=[.string ck,.string cv,.bool cg]) (t:=142) pk_ rfl));refine cu_ ?_;clear hO;(try clear hf);intro w8 hO hf))|(refine sq_ ?_;clear hO;(try clear hf);intro w9 hO hf))
     (refine rg_ hO ((0,0)::(0,1)::(1,2)::(0,3)::(0,4)::(0,5)::(0,6)::(0,7)::(0,8)::(1,9)::(0,10)::(1,11)::(0,12)::(0,13)::[]) ?_;clear hO;intro w9 hO;replace hf:=fa_ hO;(refine ss_ hO ?_;clear hO hf;intro w9 hO hf));refine zAA ?_;have HIN:∀(a:Option Addr) (c g vc:Nat),Does Tryz.prog 136 #[.slice a on c,.int .i64 on,.slice (some ⟨g,0,none⟩) 1 vc] [Row2 177 2 a on c (O1.flatMap rwC),Var g [.string ck,.string cv] 177] (fun p:Option Addr×Nat=>(.slice p.1 (on+1) p.2,[Row2 177 2 p.1 (on+1) p.2 ((insR O1 on ⟨ck,cv⟩).flatMap rwC)])):=fun a c g vc=>zEx a on c g vc on O1 ⟨ck,cv⟩ HN1.out (by omega) (by omega)
     have HIL:=Lib.hid (zFM O1 on ⟨ck,cv⟩ (by rw [HN1.out];omega));cases cg with
     | true=>
      go_wp2_with (first | fail | (refine sq_ ?_;clear hO;(try clear hf);intro w9 hO hf));refine ⟨⟨j+1,on,oc,oa,O1,rfl,by go_num,by omega,by omega,HN1,Lib.hid (e1.out.trans (E2.out.trans (if_pos rfl))).symm,?_⟩,by simp [intOf];omega⟩;(try simp only [CA]);exact hO.cut sb_
     | false=>
      go_wp2_with (first | fail | (go_at_call 136;(with_reducible apply Does.use hO (HIN _ _ _ _);exact tk_;refine du_ ?_;clear hO;(try clear hf);intro x9 w9 hO hf;(obtain ⟨pa,pc⟩:=x9;dsimp only at hO ⊢;(replace hf:=fa_ hO))))|(refine sq_ ?_;clear hO;(try clear hf);intro w9 hO hf));refine ⟨⟨j+1,on+1,pc,pa,insR O1 on ⟨ck,cv⟩,rfl,by go_num,by omega,by omega,Lib.hid (by rw [HIL.out,HN1.out]),Lib.hid (e1.out.trans (E2.out.trans (if_neg Bool.false_ne_true))).symm,?_⟩,by simp [intOf];omega⟩;(try simp only [CA]);exact hO.cut sb_
  ·have hOL:O=L:=by
    rw [HO.out,List.take_of_length_le (by omega)];exact HL.out
   subst hOL;clear HO HL HB;by_cases hmo:most≤on
   ·obtain ⟨k,rfl⟩:∃k:Nat,most=(k:Int):=⟨most.toNat,by omega⟩
    have hk1:k-1<O.length:=by rw [HOn.out];omega
    have hS:=zRP (L:=O) (k:=k) lo hi (by omega) (by rw [HOn.out];omega);obtain ⟨g0,rfl,_⟩:=hO.rowAt (e:=177) (size:=2) (a:=oa) (n:=on) (cap:=oc) (xs:=O.flatMap rwC) pk_ (by omega);have hcy:=fun w (h:ValsAt w (some ⟨g0,0,none⟩) (O.flatMap rwC))=>zCO h hk1
    simp only [Nat.zero_add] at hcy;have hrl:=hO.rowLen (e:=177) (size:=2) (a:=some ⟨g0,0,none⟩) (n:=on) (cap:=oc) (xs:=O.flatMap rwC) pk_;have hrl1:=hrl.2.1;clear hrl;have hsz:=HKS.out _ (List.getElem_mem hk1);generalize O[k-1]=x at *;obtain ⟨xk,xv⟩:=x;dsimp only at hS hcy hsz;have HPT:∀w,Calls Tryz.prog 114 #[.string xk] w fun e w'=>e=.returned (.agg #[.string xk,.string (xk++nul)])∧Ext w w':=fun w=>zDS xk w (by omega)
    have HBT:∀w,Calls Tryz.prog 137 #[.agg #[.string lo,.string hi],.agg #[.string ⟨#[]⟩,.string (xk++nul)]] w fun e w'=>e=.returned (.agg #[.string (Sp.both ⟨lo,hi⟩ ⟨⟨#[]⟩,xk++nul⟩).lo,.string (Sp.both ⟨lo,hi⟩ ⟨⟨#[]⟩,xk++nul⟩).hi])∧Ext w w':=fun w=>zSD lo hi ⟨#[]⟩ (xk++nul) w
    generalize Sp.both ⟨lo,hi⟩ ⟨⟨#[]⟩,xk++nul⟩=sp at *;obtain ⟨f1,f2,f3⟩:=zIq (L:=O) (R:=R) h1 hS;have HNT:=zFd q p since C R sp hR;have HF:=Lib.hid (And.intro f1 (And.intro f2 f3));clear f1 f2 f3 hS hsz HKS;generalize zA7 R sp=R' at *;generalize zAY R sp=N at *;go_upto_region 18 with ((refine sq_ ?_;clear hO;(try clear hf);intro w9 hO hf))
    (refine rg_ hO ((1,0)::(0,1)::(0,2)::(0,3)::(0,4)::(0,5)::(1,6)::(3,7)::(0,8)::(0,9)::(3,10)::(5,11)::[]) ?_;clear hO;intro w9 hO;replace hf:=fa_ hO;(repeat (first|(apply zAG _ rfl rfl rfl;focus (intro w8 K8 hK8;(repeat (first | go_skip | go_guarded | go_step));exact hK8))|(apply zAJ _ rfl rfl rfl;focus (intro w8 hx8 K8 hK8;have hO:=hO.ext hx8;(replace hf:=fa_ hO);obtain ⟨d0,d1⟩:=hcy _ (rowV (hO.factOf (r:=Row2 177 2 (some ⟨g0,0,none⟩) on oc (O.flatMap rwC)) pk_));(repeat (first | go_skip | go_guarded | go_step));exact hK8))|(apply zAL _ rfl;(focus (intro w8 hx8 K8 hK8;have hO:=hO.ext hx8;(replace hf:=fa_ hO);(repeat (first | go_skip | go_guarded | go_step | (first|(go_at_call 114;(with_reducible refine Calls.mono (HPT _) ?_;rintro e7 w7 ⟨rfl,hx7⟩;dsimp only))|(go_at_call 137;(with_reducible refine Calls.mono (HBT _) ?_;rintro e7 w7 ⟨rfl,hx7⟩;dsimp only)))));(first | exact xt_ | exact hK8 _ xt_)));(focus (exact rfl));intro w8 hx8;replace hO:=hO.ext hx8;clear hx8;(replace hf:=fa_ hO)))));(refine ds_ ?_;clear hO hf;intro w9 hO hf);(refine ss_ hO ?_;clear hO hf;intro w9 hO hf);refine zAA ?_;by_cases hN:N=0
    ·subst hN;rw [show errV 0=.nilIface from rfl] at HNT;go_wp2_with (first|(go_at_call 113;(replace hO:=hO.toView (C:=C) (R:=R) tk_;(go_at_call 113;(with_reducible apply Does.use hO (HNT);exact tk_;refine du_ ?_;clear hO;(try clear hf);intro x9 w9 hO hf))))|(refine sq_ ?_;clear hO;(try clear hf);intro w9 hO hf));have hO:=(hO.pick (r:=Row2 177 2 (some ⟨g0,0,none⟩) on oc (O.flatMap rwC)) pk_).rowCut k (by omega);rw [zFm] at hO;go_ret2;rw [HF.out.1,HF.out.2.1,HF.out.2.2,if_pos (by trivial),show (k:Int).toNat=k from rfl];have hlk:(O.take k).length=k:=by rw [List.length_take,HOn.out];omega
     rw [hlk];refine ⟨(some ⟨g0,0,none⟩,oc),rfl,?_⟩;(try simp only [CA]);exact hO.cut sb_
    ·obtain ⟨N,rfl⟩:∃N',N=N'+1:=⟨N-1,by omega⟩
     rw [show errV (N+1)=.iface 124 (.int .i64 ((N+1:Nat):Int)) from rfl] at HNT;go_wp2_with (first|(go_at_call 113;(replace hO:=hO.toView (C:=C) (R:=R) tk_;(go_at_call 113;(with_reducible apply Does.use hO (HNT);exact tk_;refine du_ ?_;clear hO;(try clear hf);intro x9 w9 hO hf))))|(refine sq_ ?_;clear hO;(try clear hf);intro w9 hO hf));have hO:=hO.nil 177 2;go_ret2;rw [HF.out.1,HF.out.2.1,HF.out.2.2,if_neg (by omega),show errV (N+1)=.iface 124 (.int .i64 ((N+1:Nat):Int)) from rfl];refine ⟨(none,0),rfl,?_⟩;simp only [List.length_nil,List.flatMap_nil];(try simp only [CA]);exact hO.cut sb_
   ·have hS:=zRB (L:=O) (most:=most) lo hi (by rw [HOn.out];omega);obtain ⟨f1,f2,f3⟩:=zIq (L:=O) (R:=R) h1 hS;have HNT:Does Tryz.prog 113 #[.pointer (some ⟨q,0,none⟩),.agg #[.string lo,.string hi]] [ViewR q p since C R] (fun _:Unit=>(errV (zAY R ⟨lo,hi⟩),[ViewR q p since C (zA7 R ⟨lo,hi⟩)])):=zFd q p since C R ⟨lo,hi⟩ hR;have HF:=Lib.hid (And.intro f1 (And.intro f2 f3));clear f1 f2 f3 hS HKS;generalize zA7 R ⟨lo,hi⟩=R' at *;generalize zAY R ⟨lo,hi⟩=N at *;by_cases hN:N=0
    ·subst hN;rw [show errV 0=.nilIface from rfl] at HNT;go_wp2_with (first|(go_at_call 113;(replace hO:=hO.toView (C:=C) (R:=R) tk_;(go_at_call 113;(with_reducible apply Does.use hO (HNT);exact tk_;refine du_ ?_;clear hO;(try clear hf);intro x9 w9 hO hf))))|(refine sq_ ?_;clear hO;(try clear hf);intro w9 hO hf));go_ret2;rw [HF.out.1,HF.out.2.1,HF.out.2.2,if_pos (by trivial),List.take_of_length_le (by rw [HOn.out];omega),HOn.out];refine ⟨(oa,oc),rfl,?_⟩;(try simp only [CA]);exact hO.cut sb_
    ·obtain ⟨N,rfl⟩:∃N',N=N'+1:=⟨N-1,by omega⟩
     rw [show errV (N+1)=.iface 124 (.int .i64 ((N+1:Nat):Int)) from rfl] at HNT;go_wp2_with (first|(go_at_call 113;(replace hO:=hO.toView (C:=C) (R:=R) tk_;(go_at_call 113;(with_reducible apply Does.use hO (HNT);exact tk_;refine du_ ?_;clear hO;(try clear hf);intro x9 w9 hO hf))))|(refine sq_ ?_;clear hO;(try clear hf);intro w9 hO hf));have hO:=hO.nil 177 2;go_ret2;rw [HF.out.1,HF.out.2.1,HF.out.2.2,if_neg (by omega),show errV (N+1)=.iface 124 (.int .i64 ((N+1:Nat):Int)) from rfl];refine ⟨(none,0),rfl,?_⟩;simp only [List.length_nil,List.flatMap_nil];(try simp only [CA]);exact hO.cut sb_
theorem zCm (q p since nn:Nat) (V:List (ByteArray×List Vn)) (C:List Ch) (R:List Sp) (lo hi:ByteArray) (most:Int) (L:List Rw) (hL:(inC lo hi C).foldl appR (zBm V (hasB lo hi) since)=L)
 (hnd:(V.map (·.1)).Nodup) (hC:C.length≤1000) (hR:R.length≤40) (hVl:V.length≤50000) (hV:∀e∈V,e.2.length≤100000) (hks:∀r∈L,r.key.size≤300) :
 Does Tryz.prog 56 #[.pointer (some ⟨q,0,none⟩),.agg #[.string lo,.string hi],.int .i64 most] [ViewR q p since C R,VerR p nn V]
  (fun x:Option Addr×Nat=>(.tuple #[.slice x.1 (scnO L R lo hi most).length x.2,errV (scnN L R lo hi most)],[ViewR q p since C (scnB L R lo hi most),VerR p nn V,Row2 177 2 x.1 (scnO L R lo hi most).length x.2 ((scnO L R lo hi most).flatMap rwC)])):=by
 by_cases h1:1≤most
 ·exact zQj q p since nn V C R lo hi most L hL hnd hC hR hVl hV hks h1
 ·obtain ⟨f1,f2,f3⟩:=zSg (L:=L) (R:=R) lo hi (show most<1 by omega);rw [f1,f2,f3];intro S W w L0 hO;refine (zO0 q p since nn V C R lo hi most (by omega) S W w L0 hO).mono ?_;rintro e w' ⟨_,rfl,h⟩;replace h:=h.nil 177 2;refine ⟨(none,0),rfl,?_⟩;simp only [List.length_nil,List.flatMap_nil,List.cons_append,List.nil_append] at h ⊢;exact h.cut sb_
theorem zKZ {R:List Sp} (s:Sp) (h:R.length≤40):(zA7 R s).length≤40:=by
 unfold zA7;split
 ·exact h
 ·split
  ·exact h
  ·rw [List.length_append,List.length_singleton];omega
theorem zQt {C:List Ch} (c:Ch) (hU:Ups C) (h:C.length≤12):Ups (putL C c)∧(putL C c).length≤12:=by
 unfold putL;split
 ·rename_i h1;refine ⟨hU.put c,?_⟩;unfold putN at h1;split at h1
  ·omega
  ·split at h1
   ·omega
   ·omega
 ·exact ⟨hU,h⟩
theorem zNt (rows:List Rw):(newV rows).length=rows.length:=by unfold newV;rw [List.length_map]
theorem zSr (k:ByteArray):keyN k≤3:=by unfold keyN;split<;>omega
theorem zGz (y:ByteArray×Bool) (C:List Ch) (R:List Sp) (k:ByteArray):(getG y C R k).2.2≤1000:=by
 unfold getG;split
 ·have:=zSr k;exact Nat.le_trans this (by omega)
 ·split
  ·exact Nat.zero_le _
  ·split
   ·exact Nat.le_trans (zMU _ _) (by omega)
   ·exact Nat.zero_le _
theorem zG5 (L:List Rw) (R:List Sp) (lo hi:ByteArray) (most:Int):scnN L R lo hi most≤1000:=by
 unfold scnN;split
 ·omega
 ·exact Nat.le_trans (zMU _ _) (by omega)
theorem zRW (L:List Rw) (R:List Sp) (lo hi:ByteArray) (most:Int):(scnO L R lo hi most).length≤L.length:=by
 unfold scnO;split
 ·rw [List.length_take];omega
 ·exact Nat.zero_le _
theorem zSl (rows:List Rw) (C:List Ch) (lo hi:ByteArray):(inR lo hi (C.foldl appR rows)).length≤rows.length+C.length:=
 Nat.le_trans (List.length_filter_le _ _) (zHu C rows)
theorem zC9 (C:List Ch) (c:Ch):putN C c≤1000:=by
 unfold putN;have:=zPw c;split
 ·omega
 ·split<;>omega
noncomputable def zAO (y:ByteArray×Bool) (C:List Ch) (R:List Sp) (name:ByteArray):Qu×Nat:=
 if ¬zAN name then (Qu.z,3) else if (getG y C R (queB name)).2.2≠0 then (Qu.z,(getG y C R (queB name)).2.2) else if (getG y C R (queB name)).2.1=false then (Qu.z,5) else quOf (getG y C R (queB name)).1
noncomputable def zAI (C:List Ch) (R:List Sp) (name:ByteArray):List Sp:=if ¬zAN name then R else getB C R (queB name)
theorem zGr (a:ByteArray):(queB a).size=a.size+2:=by
 show (queB a).data.size=_;unfold queB;rw [ByteArray.data_append,ByteArray.data_append,Array.size_append,Array.size_append];show 1+1+a.size=_;omega
theorem zGA {y:ByteArray×Bool} {C:List Ch} {R:List Sp} {k:ByteArray} (hy:y.1.size≤100) (hC:∀c∈C,c.val.size≤100):(getG y C R k).1.size≤100:=by
 unfold getG;split
 ·exact Nat.zero_le _
 ·split
  ·rename_i c hc;exact hC c (List.mem_of_find?_eq_some hc)
  ·split
   ·exact Nat.zero_le _
   ·exact hy
theorem zCJ (q p since nn:Nat) (V:List (ByteArray×List Vn)) (C:List Ch) (R:List Sp) (name:ByteArray) (y:ByteArray×Bool) (hy:zAU V (queB name) since=y) (hys:y.1.size≤100) (hCs:∀c∈C,c.val.size≤100)
 (hk:name.size≤200) (hC:C.length≤1000) (hU:Ups C) (hR:R.length≤40) (hV:∀e∈V,e.2.length≤1000000) {φ:World→Prop} (hφ:∀w,φ w→LibOk w) :
 Does Tryz.prog 90 #[.pointer (some ⟨q,0,none⟩),.string name] [ViewR q p since C R,VerR p nn V,.imm φ]
  (fun _:Unit=>(.tuple #[(zAO y C R name).1.v,errV (zAO y C R name).2],[ViewR q p since C (zAI C R name),VerR p nn V,.imm φ])):=by
 have HNM:=fun w=>zDN name w (by omega)
 have HQU:=fun w=>zKK name w (by omega)
 have HGT:=zE3 q p since nn V C R (queB name) (by rw [zGr];omega) hC hU hR hV hφ;rw [zIu,hy] at HGT;have hgs:=zGA (R:=R) (k:=queB name) hys hCs;unfold zAO zAI;generalize queB name=k at *;generalize getG y C R k=g at *;generalize getB C R k=R' at *;obtain ⟨g1,g2,g3⟩:=g;dsimp only at HGT hgs ⊢;by_cases hn:¬zAN name
 ·rw [decide_eq_false hn] at HNM;rw [if_pos hn,if_pos hn];unfold Qu.v Qu.z;rw [show errV 3=.iface 124 (.int .i64 3) from rfl];clear HGT HQU hn;intro S W w L0 hO;simp only [CA] at hO;(replace hf:=fa_ hO);go_enter Tryz.func90,Tryz.ntmps90;go_wp2_with (first|(go_at_call 173;(with_reducible apply Calls.mono (HNM _);rintro e8 w8 ⟨rfl,rfl⟩;dsimp only))|(refine sq_ ?_;clear hO hf;intro w9 hO hf));(refine zAD rfl fun K hK=>?_;simp [results,Tryz.results90,go_sem,hf];refine hK _ ⟨(),?_,?_⟩)
  ·rfl
  ·(try simp only [CA]);exact hO.cut sb_
 ·rw [decide_eq_true (Classical.not_not.1 hn)] at HNM;rw [if_neg hn,if_neg hn];clear hn;by_cases h3:g3≠0
  ·rw [if_pos h3];obtain ⟨N,rfl⟩:∃N,g3=N+1:=⟨g3-1,by omega⟩
   unfold Qu.v Qu.z;rw [show errV (N+1)=.iface 124 (.int .i64 ((N+1:Nat):Int)) from rfl] at HGT ⊢;generalize ((N+1:Nat):Int)=M at *;intro S W w L0 hO;simp only [CA] at hO;(replace hf:=fa_ hO);go_enter Tryz.func90,Tryz.ntmps90;go_wp2_with (first|(go_at_call 173;(with_reducible apply Calls.mono (HNM _);rintro e8 w8 ⟨rfl,rfl⟩;dsimp only))|(go_at_call 174;(with_reducible apply Calls.mono (HQU _);rintro e8 w8 ⟨rfl,rfl⟩;dsimp only))|(go_at_call 43;(with_reducible apply Does.use hO (HGT);exact tk_;refine du_ ?_;clear hO hf;intro x9 w9 hO hf))|(refine sq_ ?_;clear hO hf;intro w9 hO hf));(refine zAD rfl fun K hK=>?_;simp [results,Tryz.results90,go_sem,hf];refine hK _ ⟨(),?_,?_⟩)
   ·rfl
   ·(try simp only [CA]);exact hO.cut sb_
  ·obtain rfl:g3=0:=by omega
   rw [if_neg h3];rw [show errV 0=.nilIface from rfl] at HGT;clear h3;cases g2 with
   | false=>
    rw [if_pos rfl];unfold Qu.v Qu.z;rw [show errV 5=.iface 124 (.int .i64 5) from rfl];intro S W w L0 hO;simp only [CA] at hO;(replace hf:=fa_ hO);go_enter Tryz.func90,Tryz.ntmps90;go_wp2_with (first|(go_at_call 173;(with_reducible apply Calls.mono (HNM _);rintro e8 w8 ⟨rfl,rfl⟩;dsimp only))|(go_at_call 174;(with_reducible apply Calls.mono (HQU _);rintro e8 w8 ⟨rfl,rfl⟩;dsimp only))|(go_at_call 43;(with_reducible apply Does.use hO (HGT);exact tk_;refine du_ ?_;clear hO hf;intro x9 w9 hO hf))|(refine sq_ ?_;clear hO hf;intro w9 hO hf));(refine zAD rfl fun K hK=>?_;simp [results,Tryz.results90,go_sem,hf];refine hK _ ⟨(),?_,?_⟩)
    ·rfl
    ·(try simp only [CA]);exact hO.cut sb_
   | true=>
    rw [if_neg Bool.noConfusion];have HPQ:=fun w h=>zRn g1 hgs w h
    generalize quOf g1=r at *;obtain ⟨⟨ra,rb,rd⟩,rn⟩:=r;unfold Qu.v at HPQ ⊢;dsimp only at HPQ ⊢;generalize errV rn=ev at *;intro S W w L0 hO;simp only [CA] at hO;(replace hf:=fa_ hO);go_enter Tryz.func90,Tryz.ntmps90;go_wp2_with (first|(go_at_call 173;(with_reducible apply Calls.mono (HNM _);rintro e8 w8 ⟨rfl,rfl⟩;dsimp only))|(go_at_call 174;(with_reducible apply Calls.mono (HQU _);rintro e8 w8 ⟨rfl,rfl⟩;dsimp only))|(go_at_call 43;(with_reducible apply Does.use hO (HGT);exact tk_;refine du_ ?_;clear hO hf;intro x9 w9 hO hf))|(go_at_call 175;(with_reducible apply Calls.mono (HPQ _ (hφ _ (Own.immOf (φ:=φ) hO pk_)));refine cu_ ?_;clear hO hf;intro w8 hO hf))|(refine sq_ ?_;clear hO hf;intro w9 hO hf));(refine zAD rfl fun K hK=>?_;simp [results,Tryz.results90,go_sem,hf];refine hK _ ⟨(),?_,?_⟩)
    ·rfl
    ·(try simp only [CA]);exact hO.cut sb_
noncomputable def zD6 (C:List Ch) (name:ByteArray) (q:Qu):Nat:=if q.txt.2≠0 then q.txt.2 else putN C ⟨queB name,q.txt.1,false⟩
noncomputable def zEB (C:List Ch) (name:ByteArray) (q:Qu):List Ch:=if q.txt.2≠0 then C else putL C ⟨queB name,q.txt.1,false⟩
theorem Qu.txt_size (q:Qu) (hd:q.dead.size≤50):q.txt.1.size≤100:=by
 unfold Qu.txt;split
 ·exact Nat.zero_le _
 ·rename_i h;unfold Qu.bad at h;split
  ·have h1:=zAR 5 q.next.toNat (by omega);have h2:=zAR 0 q.tries.toNat (by omega);have:=zFE q.next.toNat q.tries.toNat q.dead;dsimp only;omega
  ·exact Nat.zero_le _
theorem Ms.txt_size (m:Ms):m.txt.1.size≤100:=by
 unfold Ms.txt;split
 ·exact Nat.zero_le _
 ·rename_i h;unfold Ms.bad at h;have h1:=zAR 0 m.tries.toNat (by omega);have h2:=zAR 6 m.until_.toNat (by omega);have:=zFE m.tries.toNat m.until_.toNat m.body;dsimp only;omega
theorem zKj (q p since:Nat) (C:List Ch) (R:List Sp) (name:ByteArray) (u:Qu) (hd:u.dead.size≤50) (hk:name.size≤200) (hC:C.length≤800) (hU:Ups C) {φ:World→Prop} (hφ:∀w,φ w→LibOk w) :
 Does Tryz.prog 117 #[.pointer (some ⟨q,0,none⟩),.string name,u.v] [ViewR q p since C R,.imm φ] (fun _:Unit=>(errV (zD6 C name u),[ViewR q p since (zEB C name u) R,.imm φ])):=by
 have HQU:=fun w=>zKK name w (by omega)
 have HQT:=fun w h=>zRM u hd w h
 have hts:=u.txt_size hd;unfold zD6 zEB;generalize u.txt=t at *;obtain ⟨t1,t2⟩:=t;dsimp only at HQT hts ⊢;have HP:=zEH q p since C R (queB name) t1 (by rw [zGr];omega) (by omega) hC hU hφ;obtain ⟨ua,ub,ud⟩:=u;unfold Qu.v at HQT ⊢;dsimp only at HQT ⊢;generalize queB name=k at *;by_cases h0:t2≠0
 ·rw [if_pos h0,if_pos h0];obtain ⟨N,rfl⟩:∃N,t2=N+1:=⟨t2-1,by omega⟩
  rw [show errV (N+1)=.iface 124 (.int .i64 ((N+1:Nat):Int)) from rfl] at HQT ⊢;generalize ((N+1:Nat):Int)=M at *;clear HP;intro S W w L0 hO;simp only [CA] at hO;(replace hf:=fa_ hO);go_enter Tryz.func117,Tryz.ntmps117;go_wp2_with (first|(go_at_call 201;(with_reducible apply Calls.mono (HQT _ (hφ _ (Own.immOf (φ:=φ) hO pk_)));refine cu_ ?_;clear hO hf;intro w8 hO hf))|(refine sq_ ?_;clear hO hf;intro w9 hO hf));go_ret;refine ⟨(),rfl,?_⟩;(try simp only [CA]);exact hO.cut sb_
 ·obtain rfl:t2=0:=by omega
  rw [if_neg h0,if_neg h0];rw [show errV 0=.nilIface from rfl] at HQT;clear h0;generalize putL C ⟨k,t1,false⟩=C' at *;generalize errV (putN C ⟨k,t1,false⟩)=ev at *;intro S W w L0 hO;simp only [CA] at hO;(replace hf:=fa_ hO);go_enter Tryz.func117,Tryz.ntmps117;go_wp2_with (first|(go_at_call 201;(with_reducible apply Calls.mono (HQT _ (hφ _ (Own.immOf (φ:=φ) hO pk_)));refine cu_ ?_;clear hO hf;intro w8 hO hf))|(go_at_call 174;(with_reducible apply Calls.mono (HQU _);rintro e8 w8 ⟨rfl,rfl⟩;dsimp only))|(go_at_call 44;(with_reducible apply Does.use hO (HP);exact tk_;refine du_ ?_;clear hO hf;intro x9 w9 hO hf))|(refine sq_ ?_;clear hO hf;intro w9 hO hf));go_ret;refine ⟨(),rfl,?_⟩;(try simp only [CA]);exact hO.cut sb_
theorem zAx (a:ByteArray) (n:Nat):(msgB a n).size=a.size+9:=by
 have h:=zIO n;unfold msgB;rw [ByteArray.size_append,ByteArray.size_append,ByteArray.size_append,ByteArray.size_append,h];show 1+1+(a.size+1+6)=_;omega
noncomputable def zA8 (C:List Ch) (name:ByteArray) (u:Qu) (body:ByteArray) (til:Int):Int×Nat×List Ch:=
 if u.next=999999 then (0,8,C) else if (Ms.txt ⟨0,0,til,body⟩).2≠0 then (0,(Ms.txt ⟨0,0,til,body⟩).2,C)
 else if putN C ⟨msgB name u.next.toNat,(Ms.txt ⟨0,0,til,body⟩).1,false⟩≠0 then (0,putN C ⟨msgB name u.next.toNat,(Ms.txt ⟨0,0,til,body⟩).1,false⟩,C)
 else (u.next,zD6 (putL C ⟨msgB name u.next.toNat,(Ms.txt ⟨0,0,til,body⟩).1,false⟩) name ⟨u.next+1,u.tries,u.dead⟩,zEB (putL C ⟨msgB name u.next.toNat,(Ms.txt ⟨0,0,til,body⟩).1,false⟩) name ⟨u.next+1,u.tries,u.dead⟩)
theorem zOI {C:List Ch} {c:Ch} (h:putN C c≠0):putL C c=C:=by unfold putL;rw [if_neg h]
theorem zFY {C:List Ch} (c:Ch) (hU:Ups C) (h:C.length≤700):Ups (putL C c)∧(putL C c).length≤800:=by
 unfold putL;split
 ·refine ⟨hU.put c,?_⟩;rename_i h1;unfold putN at h1;split at h1
  ·omega
  ·split at h1<;>omega
 ·exact ⟨hU,by omega⟩
theorem zIt (q p since:Nat) (C:List Ch) (R:List Sp) (name:ByteArray) (u:Qu) (body:ByteArray) (til:Int) (hu0:0≤u.next) (hu:u.next≤999999) (hd:u.dead.size≤50) (hk:name.size≤200) (hC:C.length≤700) (hU:Ups C) {φ:World→Prop} (hφ:∀w,φ w→LibOk w) :
 Does Tryz.prog 121 #[.pointer (some ⟨q,0,none⟩),.string name,u.v,.string body,.int .i64 til] [ViewR q p since C R,.imm φ]
  (fun _:Unit=>(.tuple #[.int .i64 (zA8 C name u body til).1,errV (zA8 C name u body til).2.1],[ViewR q p since (zA8 C name u body til).2.2 R,.imm φ])):=by
 have HMT:=fun w h=>zMB ⟨0,0,til,body⟩ w h
 have HMG:=fun w h=>zBD name u.next w (by omega) h (by omega)
 have hts:=Ms.txt_size ⟨0,0,til,body⟩;have hms:=zAx name u.next.toNat;have hkeep:=fun c=>zFY (C:=C) c hU hC
 have hno:=fun c=>zOI (C:=C) (c:=c)
 have hz:=fun C' h1 h2=>zKj q p since C' R name ⟨u.next+1,u.tries,u.dead⟩ hd hk h1 h2 hφ
 unfold zA8;generalize Ms.txt ⟨0,0,til,body⟩=t at *;obtain ⟨t1,t2⟩:=t;dsimp only at HMT hts ⊢;have HP:=zEH q p since C R (msgB name u.next.toNat) t1 (by omega) (by omega) (by omega) hU hφ;obtain ⟨un,ut,ud⟩:=u;unfold Qu.v at hz ⊢;unfold Ms.v at HMT;dsimp only at *;generalize msgB name un.toNat=k at *;by_cases h9:un=999999
 ·rw [if_pos h9];subst h9;rw [show errV 8=.iface 124 (.int .i64 8) from rfl];clear HP HMT HMG hz;intro S W w L0 hO;simp only [CA] at hO;(replace hf:=fa_ hO);go_enter Tryz.func121,Tryz.ntmps121;go_wp2_with (refine sq_ ?_;clear hO hf;intro w9 hO hf);go_ret2;refine ⟨(),rfl,?_⟩;(try simp only [CA]);exact hO.cut sb_
 ·rw [if_neg h9];by_cases h0:t2≠0
  ·rw [if_pos h0];obtain ⟨N,rfl⟩:∃N,t2=N+1:=⟨t2-1,by omega⟩
   dsimp only;rw [show errV (N+1)=.iface 124 (.int .i64 ((N+1:Nat):Int)) from rfl] at HMT ⊢;generalize ((N+1:Nat):Int)=M at *;clear HP hz;intro S W w L0 hO;simp only [CA] at hO;(replace hf:=fa_ hO);go_enter Tryz.func121,Tryz.ntmps121;go_wp2_with (first|(go_at_call 204;(with_reducible apply Calls.mono (HMT _ (hφ _ (Own.immOf (φ:=φ) hO pk_)));refine cu_ ?_;clear hO hf;intro w8 hO hf))|(refine sq_ ?_;clear hO hf;intro w9 hO hf));all_goals try (exfalso;omega;done)
   go_ret2;refine ⟨(),rfl,?_⟩;(try simp only [CA]);exact hO.cut sb_
  ·obtain rfl:t2=0:=by omega
   rw [if_neg h0];rw [show errV 0=.nilIface from rfl] at HMT;clear h0;have hkp:=hkeep ⟨k,t1,false⟩;have hn1:=hno ⟨k,t1,false⟩;clear hkeep hno;generalize putL C ⟨k,t1,false⟩=C' at *;generalize putN C ⟨k,t1,false⟩=N at *;by_cases hN:N≠0
   ·rw [if_pos hN];obtain rfl:=hn1 hN;obtain ⟨N,rfl⟩:∃N',N=N'+1:=⟨N-1,by omega⟩
    dsimp only;rw [show errV (N+1)=.iface 124 (.int .i64 ((N+1:Nat):Int)) from rfl] at HP ⊢;generalize ((N+1:Nat):Int)=M at *;clear hz;intro S W w L0 hO;simp only [CA] at hO;(replace hf:=fa_ hO);go_enter Tryz.func121,Tryz.ntmps121;go_wp2_with (first|(go_at_call 204;(with_reducible apply Calls.mono (HMT _ (hφ _ (Own.immOf (φ:=φ) hO pk_)));refine cu_ ?_;clear hO hf;intro w8 hO hf))|(go_at_call 124;(with_reducible apply Calls.mono (HMG _ (hφ _ (Own.immOf (φ:=φ) hO pk_)));refine cu_ ?_;clear hO hf;intro w8 hO hf))|(go_at_call 44;(with_reducible apply Does.use hO (HP);exact tk_;refine du_ ?_;clear hO hf;intro x9 w9 hO hf))|(refine sq_ ?_;clear hO hf;intro w9 hO hf));all_goals try (exfalso;omega;done)
    go_ret2;refine ⟨(),rfl,?_⟩;(try simp only [CA]);exact hO.cut sb_
   ·obtain rfl:N=0:=by omega
    rw [if_neg hN];rw [show errV 0=.nilIface from rfl] at HP;have HZ:=hz C' hkp.2 hkp.1;clear hN hn1 hz hkp;dsimp only;generalize zEB C' name ⟨un+1,ut,ud⟩=C2 at *;generalize errV (zD6 C' name ⟨un+1,ut,ud⟩)=ev at *;intro S W w L0 hO;simp only [CA] at hO;(replace hf:=fa_ hO);go_enter Tryz.func121,Tryz.ntmps121;go_wp2_with (first|(go_at_call 204;(with_reducible apply Calls.mono (HMT _ (hφ _ (Own.immOf (φ:=φ) hO pk_)));refine cu_ ?_;clear hO hf;intro w8 hO hf))|(go_at_call 124;(with_reducible apply Calls.mono (HMG _ (hφ _ (Own.immOf (φ:=φ) hO pk_)));refine cu_ ?_;clear hO hf;intro w8 hO hf))|(go_at_call 44;(with_reducible apply Does.use hO (HP);exact tk_;refine du_ ?_;clear hO hf;intro x9 w9 hO hf))|(go_at_call 117;(with_reducible apply Does.use hO (HZ);exact tk_;refine du_ ?_;clear hO hf;intro x9 w9 hO hf))|(refine sq_ ?_;clear hO hf;intro w9 hO hf));all_goals try (exfalso;omega;done)
    go_ret2;refine ⟨(),rfl,?_⟩;(try simp only [CA]);exact hO.cut sb_
def badT (t:Int):Bool:=decide (t<0)||decide (1000000<t)
def zBM (l:List Int):Nat:=if l.any badT then 1 else 0
theorem zIM (l:List Int):zBM l≤1:=by unfold zBM;split<;>omega
theorem zIA (a:Option Addr) (n c:Nat) (l:List Int) (w:World) (hl:l.length=n) (hn:n≤1000) (hA:ValsAt w a (l.map (Value.int .i64))) :
 Calls Tryz.prog 118 #[.slice a n c] w fun e w'=>e=.returned (errV (zBM l))∧Ext w w':=by
 have hO:Own (fun _=>False) w w [.imm fun w=>ValsAt w a (l.map (Value.int .i64))]:=Own.base w _ fun w' hw'=>zDb hA hw'
 (replace hf:=fa_ hO);go_enter Tryz.func118,Tryz.ntmps118;go_wp2_with (refine sq_ ?_;clear hO hf;intro w9 hO hf);have hO9:=hO;clear hO hf;go_loopw [7] (fun v wr=>∃k:Nat,v=.int .i64 k∧k≤n∧Hid ((l.drop k).any badT=l.any badT)∧Own (fun _=>False) w wr [.imm fun w=>ValsAt w a (l.map (Value.int .i64))]) (fun v _=>n-(intOf v).toNat)
 case atStart=>exact ⟨0,rfl,by omega,Lib.hid rfl,hO9⟩
 case round=>
  clear hO9;obtain ⟨k,rfl,hk,HI,hO⟩:=hrel;rename World=>w0
  (replace hf:=fa_ hO);by_cases hlt:k<n
  ·have hk2:k<l.length:=by omega
   have hg:(l.map (Value.int .i64))[k]?=some (.int .i64 l[k]):=by rw [List.getElem?_map,List.getElem?_eq_getElem hk2];rfl
   obtain ⟨b,off,rfl⟩:=ValsAt.some hf hg;have c0:=ValsAt.get hf hg;have hd:(l.drop k).any badT=(badT l[k]||(l.drop (k+1)).any badT):=by rw [List.drop_eq_getElem_cons hk2,List.any_cons]
   have HD:=Lib.hid (hd.symm.trans HI.out);clear hd hg HI;generalize l[k]=t at *;cases hb:badT t with
   | true=>
    rw [hb,Bool.true_or] at HD;have HE:=Lib.hid (show zBM l=1 by unfold zBM;rw [←HD.out];rfl);unfold badT at hb;simp only [Bool.or_eq_true,decide_eq_true_eq] at hb;go_wp2_with (refine sq_ ?_;clear hO;(try clear hf);intro w9 hO hf);all_goals try (exfalso;omega;done)
    all_goals
     go_ret;rw [HE.out];exact ⟨rfl,hO.toExt⟩
   | false=>
    rw [hb,Bool.false_or] at HD;unfold badT at hb;simp only [Bool.or_eq_false_iff,decide_eq_false_iff_not] at hb;go_wp2_with (refine sq_ ?_;clear hO;(try clear hf);intro w9 hO hf);all_goals try (exfalso;omega;done)
    exact ⟨⟨k+1,by go_num,by omega,HD,hO⟩,by simp [intOf];omega⟩
  ·have e1:=HI.out;rw [List.drop_of_length_le (by omega)] at e1;have HE:=Lib.hid (show zBM l=0 by unfold zBM;rw [←e1];rfl);clear e1;go_wp2_with (refine sq_ ?_;clear hO;(try clear hf);intro w9 hO hf);go_ret;rw [HE.out];exact ⟨rfl,hO.toExt⟩
theorem zAk (n:Nat):(n=0∧errV n=.nilIface)∨∃M:Int,n≠0∧errV n=.iface 124 (.int .i64 M):=by
 cases n with
 | zero=>exact .inl ⟨rfl,rfl⟩
 | succ n=>exact .inr ⟨((n+1:Nat):Int),by omega,rfl⟩
theorem zPW (b0 b1 b2 b3 b4 b5 b6 q p since:Nat) (C:List Ch) (R:List Sp) (name:ByteArray) (u:Qu) (body:ByteArray) (til:Int) (v5 v6:Value) (hu0:0≤u.next) (hu:u.next≤999999) (hd:u.dead.size≤50) (hk:name.size≤200) (hC:C.length≤700) (hU:Ups C) {φ:World→Prop} (hφ:∀w,φ w→LibOk w) :
 Does Tryz.prog 120 #[.pointer (some ⟨b0,0,none⟩),.pointer (some ⟨b1,0,none⟩),.pointer (some ⟨b2,0,none⟩),.pointer (some ⟨b3,0,none⟩),.pointer (some ⟨b4,0,none⟩),.pointer (some ⟨b5,0,none⟩),.pointer (some ⟨b6,0,none⟩)] [Var b0 [.pointer (some ⟨q,0,none⟩)] 59,Var b1 [.string name] 9,Var b2 [.int .i64 u.next,.int .i64 u.tries,.string u.dead] 157,Var b3 [.string body] 9,Var b4 [.int .i64 til] 3,Var b5 [v5] 3,Var b6 [v6] 42,ViewR q p since C R,.imm φ]
  (fun _:Unit=>(errV (zA8 C name u body til).2.1,[Var b0 [.pointer (some ⟨q,0,none⟩)] 59,Var b1 [.string name] 9,Var b2 [.int .i64 u.next,.int .i64 u.tries,.string u.dead] 157,Var b3 [.string body] 9,Var b4 [.int .i64 til] 3,Var b5 [.int .i64 (zA8 C name u body til).1] 3,Var b6 [errV (zA8 C name u body til).2.1] 42,ViewR q p since (zA8 C name u body til).2.2 R,.imm φ])):=by
 have HS:=zIt q p since C R name u body til hu0 hu hd hk hC hU hφ;generalize zA8 C name u body til=s at *;obtain ⟨s1,s2,s3⟩:=s;obtain ⟨un,ut,ud⟩:=u;unfold Qu.v at HS;dsimp only at HS ⊢;rcases zAk s2 with ⟨_,e⟩ | ⟨M,_,e⟩<;>rw [e] at HS ⊢<;>clear e
 ·intro S W w L0 hO;simp only [CA] at hO;(replace hf:=fa_ hO);go_enter Tryz.func120,Tryz.ntmps120;go_wp2_with (first|(go_at_call 121;(with_reducible apply Does.use hO (HS);exact tk_;refine du_ ?_;clear hO hf;intro x9 w9 hO hf))|(refine sq_ ?_;clear hO hf;intro w9 hO hf));go_ret;refine ⟨(),rfl,?_⟩;(try simp only [CA]);exact hO.cut sb_
 ·intro S W w L0 hO;simp only [CA] at hO;(replace hf:=fa_ hO);go_enter Tryz.func120,Tryz.ntmps120;go_wp2_with (first|(go_at_call 121;(with_reducible apply Does.use hO (HS);exact tk_;refine du_ ?_;clear hO hf;intro x9 w9 hO hf))|(refine sq_ ?_;clear hO hf;intro w9 hO hf));go_ret;refine ⟨(),rfl,?_⟩;(try simp only [CA]);exact hO.cut sb_
theorem zLe (b0 b1 b2 b3 b4 b5 b6 q p since:Nat) (C:List Ch) (R:List Sp) (name:ByteArray) (u:Qu) (body:ByteArray) (til:Int) (v5 v6:Value) (hu0:0≤u.next) (hu:u.next≤999999) (hd:u.dead.size≤50) (hk:name.size≤200) (hC:C.length≤700) (hU:Ups C) {φ:World→Prop} (hφ:∀w,φ w→LibOk w) :
 Does Tryz.prog 119 #[.pointer (some ⟨q,0,none⟩),.func (.func 120) #[] #[.pointer (some ⟨b0,0,none⟩),.pointer (some ⟨b1,0,none⟩),.pointer (some ⟨b2,0,none⟩),.pointer (some ⟨b3,0,none⟩),.pointer (some ⟨b4,0,none⟩),.pointer (some ⟨b5,0,none⟩),.pointer (some ⟨b6,0,none⟩)]] [Var b0 [.pointer (some ⟨q,0,none⟩)] 59,Var b1 [.string name] 9,Var b2 [.int .i64 u.next,.int .i64 u.tries,.string u.dead] 157,Var b3 [.string body] 9,Var b4 [.int .i64 til] 3,Var b5 [v5] 3,Var b6 [v6] 42,ViewR q p since C R,.imm φ]
  (fun _:Unit=>(errV (zA8 C name u body til).2.1,[Var b0 [.pointer (some ⟨q,0,none⟩)] 59,Var b1 [.string name] 9,Var b2 [.int .i64 u.next,.int .i64 u.tries,.string u.dead] 157,Var b3 [.string body] 9,Var b4 [.int .i64 til] 3,Var b5 [.int .i64 (zA8 C name u body til).1] 3,Var b6 [errV (zA8 C name u body til).2.1] 42,ViewR q p since (if (zA8 C name u body til).2.1=0 then (zA8 C name u body til).2.2 else C) R,.imm φ])):=by
 have H1:=zPW b0 b1 b2 b3 b4 b5 b6 q p since C R name u body til v5 v6 hu0 hu hd hk hC hU hφ;have HMK:=zIw q p since C R (by omega);have HBK:=fun C' a c=>zJF q p since C' R a c C (by omega)
 generalize zA8 C name u body til=s at *;obtain ⟨s1,s2,s3⟩:=s;obtain ⟨un,ut,ud⟩:=u;dsimp only at H1 ⊢;rcases zAk s2 with ⟨h0,e⟩ | ⟨M,h0,e⟩<;>rw [e] at H1 ⊢<;>clear e
 ·rw [if_pos h0];intro S W w L0 hO;simp only [CA] at hO;(replace hf:=fa_ hO);go_enter Tryz.func119,Tryz.ntmps119;go_wp2_with (first|(go_at_call 202;(with_reducible apply Does.use hO (HMK);exact tk_;refine du_ ?_;clear hO hf;intro x9 w9 hO hf;(obtain ⟨ma,mc⟩:=x9;dsimp only at hO ⊢;(replace hf:=fa_ hO))))|(go_at_call 120;(with_reducible apply Does.use hO (H1);exact tk_;refine du_ ?_;clear hO hf;intro x9 w9 hO hf))|(refine sq_ ?_;clear hO hf;intro w9 hO hf));go_ret;refine ⟨(),rfl,?_⟩;(try simp only [CA]);exact hO.cut sb_
 ·rw [if_neg h0];intro S W w L0 hO;simp only [CA] at hO;(replace hf:=fa_ hO);go_enter Tryz.func119,Tryz.ntmps119;go_upto_region 4 with (first|(go_at_call 202;(with_reducible apply Does.use hO (HMK);exact tk_;refine du_ ?_;clear hO hf;intro x9 w9 hO hf;(obtain ⟨ma,mc⟩:=x9;dsimp only at hO ⊢;(replace hf:=fa_ hO))))|(go_at_call 120;(with_reducible apply Does.use hO (H1);exact tk_;refine du_ ?_;clear hO hf;intro x9 w9 hO hf))|(refine sq_ ?_;clear hO hf;intro w9 hO hf))
  have hO:=hO.rowCi (a:=ma) (C:=C) pk_;(replace hf:=fa_ hO);go_wp2_with (first|(go_at_call 203;(with_reducible apply Does.use hO (HBK _ _ _);exact tk_;refine du_ ?_;clear hO hf;intro x9 w9 hO hf))|(refine sq_ ?_;clear hO hf;intro w9 hO hf));go_ret;refine ⟨(),rfl,?_⟩;(try simp only [CA]);exact hO.cut sb_
noncomputable def zBa (y:ByteArray×Bool) (C:List Ch) (R:List Sp) (name body:ByteArray) (til:Int):Int×Nat×List Ch:=
 if (zAO y C R name).2≠0 then (0,(zAO y C R name).2,C) else if zBM [til]≠0 then (0,1,C)
 else if (zA8 C name (zAO y C R name).1 body til).2.1≠0 then (0,(zA8 C name (zAO y C R name).1 body til).2.1,C)
 else ((zA8 C name (zAO y C R name).1 body til).1,0,(zA8 C name (zAO y C R name).1 body til).2.2)
theorem zCw {y:ByteArray×Bool} {C:List Ch} {R:List Sp} {name:ByteArray} (h:(zAO y C R name).2=0):0≤(zAO y C R name).1.next∧(zAO y C R name).1.next≤999999∧(zAO y C R name).1.dead.size≤6∧(zAO y C R name).1.ok∧zAN name:=by
 unfold zAO at *;split at h
 ·cases h
 ·rename_i h1;rw [if_neg h1];split at h
  ·rename_i h2;exact absurd h h2
  ·rename_i h2;rw [if_neg h2];split at h
   ·cases h
   ·rename_i h3;rw [if_neg h3];rcases zFp (getG y C R (queB name)).1 with ⟨q,hq,hok,hds,_⟩ | ⟨hq,_⟩
    ·rw [hq];have:=hok.1;unfold Qu.bad at this;exact ⟨by dsimp only;omega,by dsimp only;omega,hds,hok,Classical.not_not.1 h1⟩
    ·rw [hq] at h;cases h
theorem zMs {b:Nat} {t:TypeId} {til:Int} {w:World} (h:(Var b [.int .i64 til] t).facts w):ValsAt w (some ⟨b,0,none⟩) ([til].map (Value.int .i64)):=
 .inr ⟨b,0,rfl,fun i hi=>Var.at (t:=t) h i _ (List.getElem?_eq_getElem hi)⟩
theorem zOy (q p since nn:Nat) (V:List (ByteArray×List Vn)) (C:List Ch) (R:List Sp) (name body:ByteArray) (til:Int) (y:ByteArray×Bool) (hy:zAU V (queB name) since=y) (hys:y.1.size≤100) (hCs:∀c∈C,c.val.size≤100)
 (hk:name.size≤200) (hC:C.length≤700) (hU:Ups C) (hR:R.length≤40) (hV:∀e∈V,e.2.length≤1000000) {φ:World→Prop} (hφ:∀w,φ w→LibOk w) :
 Does Tryz.prog 48 #[.pointer (some ⟨q,0,none⟩),.string name,.string body,.int .i64 til] [ViewR q p since C R,VerR p nn V,.imm φ]
  (fun _:Unit=>(.tuple #[.int .i64 (zBa y C R name body til).1,errV (zBa y C R name body til).2.1],[ViewR q p since (zBa y C R name body til).2.2 (zAI C R name),VerR p nn V,.imm φ])):=by
 have HF:=zCJ q p since nn V C R name y hy hys hCs hk (by omega) hU hR hV hφ;have HTM:=fun w b (h:(Var b [.int .i64 til] 3).facts w)=>zIA (some ⟨b,0,none⟩) 1 1 [til] w rfl (by omega) (zMs h)
 have hok:=zCw (y:=y) (C:=C) (R:=R) (name:=name);have hAL:=fun (b0 b1 b2 b3 b4 b5 b6:Nat) (u:Qu) h1 h2 h3=>zLe b0 b1 b2 b3 b4 b5 b6 q p since C (zAI C R name) name u body til (.int .i64 0) .nilIface h1 h2 h3 hk hC hU hφ
 unfold zBa;generalize zAO y C R name=f at *;generalize zAI C R name=R' at *;obtain ⟨⟨un,ut,ud⟩,f2⟩:=f;unfold Qu.v at HF;dsimp only at HF hok ⊢;rcases zAk f2 with ⟨h0,e⟩ | ⟨M,h0,e⟩
 ·rw [e] at HF;rw [if_neg (show ¬f2≠0 by omega)];obtain ⟨hu0,hu,hd,_,_⟩:=hok h0;have HAL:=fun (b0 b1 b2 b3 b4 b5 b6:Nat)=>hAL b0 b1 b2 b3 b4 b5 b6 ⟨un,ut,ud⟩ hu0 hu (show ud.size≤50 by omega)
  clear hAL hok e h0;rcases zAk (zBM [til]) with ⟨h0,e⟩ | ⟨M,h0,e⟩
  ·rw [e] at HTM;rw [if_neg (show ¬zBM [til]≠0 by omega)];generalize zA8 C name ⟨un,ut,ud⟩ body til=s at *;obtain ⟨s1,s2,s3⟩:=s;dsimp only at HAL ⊢;clear e h0;rcases zAk s2 with ⟨h0,e⟩ | ⟨M,h0,e⟩
   ·rw [e,if_pos h0] at HAL;rw [if_neg (show ¬s2≠0 by omega),show errV 0=.nilIface from rfl];intro S W w L0 hO;simp only [CA] at hO;(replace hf:=fa_ hO);go_enter Tryz.func48,Tryz.ntmps48;go_wp2_with (first|(go_at_call 90;(with_reducible apply Does.use hO (HF);exact tk_;refine du_ ?_;clear hO hf;intro x9 w9 hO hf))|(go_at_call 118;(with_reducible apply Calls.mono (HTM _ _ (hO.factOf (r:=Var _ [.int .i64 til] 3) pk_));refine cu_ ?_;clear hO hf;intro w8 hO hf))|(go_at_call 119;(with_reducible apply Does.use hO (HAL _ _ _ _ _ _ _);exact tk_;refine du_ ?_;clear hO hf;intro x9 w9 hO hf))|(refine sq_ ?_;clear hO hf;intro w9 hO hf));go_ret2;refine ⟨(),rfl,?_⟩;(try simp only [CA]);exact hO.cut sb_
   ·rw [e,if_neg h0] at HAL;rw [if_pos h0];dsimp only;rw [e];intro S W w L0 hO;simp only [CA] at hO;(replace hf:=fa_ hO);go_enter Tryz.func48,Tryz.ntmps48;go_wp2_with (first|(go_at_call 90;(with_reducible apply Does.use hO (HF);exact tk_;refine du_ ?_;clear hO hf;intro x9 w9 hO hf))|(go_at_call 118;(with_reducible apply Calls.mono (HTM _ _ (hO.factOf (r:=Var _ [.int .i64 til] 3) pk_));refine cu_ ?_;clear hO hf;intro w8 hO hf))|(go_at_call 119;(with_reducible apply Does.use hO (HAL _ _ _ _ _ _ _);exact tk_;refine du_ ?_;clear hO hf;intro x9 w9 hO hf))|(refine sq_ ?_;clear hO hf;intro w9 hO hf));(refine rg_ hO ((1,0)::(0,1)::(0,2)::[]) ?_;clear hO;intro w9 hO;replace hf:=fa_ hO;(refine ss_ hO ?_;clear hO hf;intro w9 hO hf));refine zAA ?_;go_wp2_with (refine sq_ ?_;clear hO hf;intro w9 hO hf);go_ret2;refine ⟨(),rfl,?_⟩;(try simp only [CA]);exact hO.cut sb_
  ·rw [if_pos (show zBM [til]≠0 by omega)];have h1:zBM [til]=1:=by have:=zIM [til];omega
   rw [h1] at HTM;rw [show errV 1=.iface 124 (.int .i64 1) from rfl] at HTM ⊢;clear HAL h0 e h1;intro S W w L0 hO;simp only [CA] at hO;(replace hf:=fa_ hO);go_enter Tryz.func48,Tryz.ntmps48;go_wp2_with (first|(go_at_call 90;(with_reducible apply Does.use hO (HF);exact tk_;refine du_ ?_;clear hO hf;intro x9 w9 hO hf))|(go_at_call 118;(with_reducible apply Calls.mono (HTM _ _ (hO.factOf (r:=Var _ [.int .i64 til] 3) pk_));refine cu_ ?_;clear hO hf;intro w8 hO hf))|(refine sq_ ?_;clear hO hf;intro w9 hO hf));(refine rg_ hO ((1,0)::(0,1)::(0,2)::[]) ?_;clear hO;intro w9 hO;replace hf:=fa_ hO;(refine ss_ hO ?_;clear hO hf;intro w9 hO hf));refine zAA ?_;go_wp2_with (refine sq_ ?_;clear hO hf;intro w9 hO hf);go_ret2;refine ⟨(),rfl,?_⟩;(try simp only [CA]);exact hO.cut sb_
 ·rw [e] at HF;rw [if_pos h0];dsimp only;rw [e];clear hAL hok HTM;intro S W w L0 hO;simp only [CA] at hO;(replace hf:=fa_ hO);go_enter Tryz.func48,Tryz.ntmps48;go_wp2_with (first|(go_at_call 90;(with_reducible apply Does.use hO (HF);exact tk_;refine du_ ?_;clear hO hf;intro x9 w9 hO hf))|(refine sq_ ?_;clear hO hf;intro w9 hO hf));(refine rg_ hO ((1,0)::(0,1)::(0,2)::[]) ?_;clear hO;intro w9 hO;replace hf:=fa_ hO;(refine ss_ hO ?_;clear hO hf;intro w9 hO hf));refine zAA ?_;go_wp2_with (refine sq_ ?_;clear hO hf;intro w9 hO hf);go_ret2;refine ⟨(),rfl,?_⟩;(try simp only [CA]);exact hO.cut sb_
def zAa (name:ByteArray) (n:Int):Ch:=⟨msgB name n.toNat,⟨#[]⟩,true⟩
noncomputable def zAh (B:ByteArray→ByteArray×Bool) (C:List Ch) (R:List Sp) (name:ByteArray) (u:Qu) (m:Ms):Nat×List Ch×List Sp:=
 if putN C (zAa name m.num)≠0 then (putN C (zAa name m.num),C,R)
 else if u.dead.size=0 then (0,putL C (zAa name m.num),R)
 else if (zAO (B (queB u.dead)) (putL C (zAa name m.num)) R u.dead).2≠0 then ((zAO (B (queB u.dead)) (putL C (zAa name m.num)) R u.dead).2,putL C (zAa name m.num),zAI (putL C (zAa name m.num)) R u.dead)
 else ((zA8 (putL C (zAa name m.num)) u.dead (zAO (B (queB u.dead)) (putL C (zAa name m.num)) R u.dead).1 m.body 0).2.1,(zA8 (putL C (zAa name m.num)) u.dead (zAO (B (queB u.dead)) (putL C (zAa name m.num)) R u.dead).1 m.body 0).2.2,zAI (putL C (zAa name m.num)) R u.dead)
theorem zSN {C:List Ch} (c:Ch) (h:C.length≤600):(putL C c).length≤600:=by
 unfold putL;split
 ·rename_i h1;unfold putN at h1;split at h1
  ·rename_i h2;exact absurd h1 h2
  ·split at h1
   ·cases h1
   ·omega
 ·exact h
theorem zRJ (q p since nn:Nat) (V:List (ByteArray×List Vn)) (B:ByteArray→ByteArray×Bool) (C:List Ch) (R:List Sp) (name:ByteArray) (u:Qu) (m:Ms) (hm0:0≤m.num) (hm:m.num≤999999)
 (hk:name.size≤200) (hC:C.length≤600) (hU:Ups C) (h1:putN C (zAa name m.num)≠0) {φ:World→Prop} (hφ:∀w,φ w→LibOk w) :
 Does Tryz.prog 125 #[.pointer (some ⟨q,0,none⟩),.string name,u.v,m.v] [ViewR q p since C R,VerR p nn V,.imm φ]
  (fun _:Unit=>(errV (zAh B C R name u m).1,[ViewR q p since (zAh B C R name u m).2.1 (zAh B C R name u m).2.2,VerR p nn V,.imm φ])):=by
 have hms:=zAx name m.num.toNat;have HD:=zCW q p since C R (msgB name m.num.toNat) (by omega) (by omega) hU hφ;have HMG:=fun w h=>zBD name m.num w (by omega) h (by omega)
 unfold zAh;rw [if_pos h1];have hpl:=zOI h1;unfold zAa at *;rw [hpl] at HD;generalize msgB name m.num.toNat=k at *;obtain ⟨mn,mt,mu,mb⟩:=m;obtain ⟨un,ut,ud⟩:=u;unfold Ms.v Qu.v;dsimp only at *;rcases zAk (putN C ⟨k,⟨#[]⟩,true⟩) with ⟨h0,e⟩ | ⟨M,h0,e⟩
 ·exact absurd h0 h1
 ·rw [e] at HD ⊢;clear e h0 h1 hpl;intro S W w L0 hO;simp only [CA] at hO;(replace hf:=fa_ hO);go_enter Tryz.func125,Tryz.ntmps125;go_wp2_with (first|(go_at_call 124;(with_reducible apply Calls.mono (HMG _ (hφ _ (Own.immOf (φ:=φ) hO pk_)));refine cu_ ?_;clear hO hf;intro w8 hO hf))|(go_at_call 93;(with_reducible apply Does.use hO (HD);exact tk_;refine du_ ?_;clear hO hf;intro x9 w9 hO hf))|(refine sq_ ?_;clear hO hf;intro w9 hO hf));go_ret;refine ⟨(),rfl,?_⟩;(try simp only [CA]);exact hO.cut sb_
theorem zQM (q p since nn:Nat) (V:List (ByteArray×List Vn)) (B:ByteArray→ByteArray×Bool) (C:List Ch) (R:List Sp) (name:ByteArray) (u:Qu) (m:Ms) (hm0:0≤m.num) (hm:m.num≤999999)
 (hk:name.size≤200) (hC:C.length≤600) (hU:Ups C) (h1:putN C (zAa name m.num)=0) (hd:u.dead.size=0) {φ:World→Prop} (hφ:∀w,φ w→LibOk w) :
 Does Tryz.prog 125 #[.pointer (some ⟨q,0,none⟩),.string name,u.v,m.v] [ViewR q p since C R,VerR p nn V,.imm φ]
  (fun _:Unit=>(errV (zAh B C R name u m).1,[ViewR q p since (zAh B C R name u m).2.1 (zAh B C R name u m).2.2,VerR p nn V,.imm φ])):=by
 have hms:=zAx name m.num.toNat;have HD:=zCW q p since C R (msgB name m.num.toNat) (by omega) (by omega) hU hφ;have HMG:=fun w h=>zBD name m.num w (by omega) h (by omega)
 unfold zAh;rw [if_neg (by rw [h1];exact fun h=>h rfl),if_pos hd];unfold zAa at *;rw [h1] at HD;generalize msgB name m.num.toNat=k at *;obtain ⟨mn,mt,mu,mb⟩:=m;obtain ⟨un,ut,ud⟩:=u;unfold Ms.v Qu.v;dsimp only at *;rw [show errV 0=.nilIface from rfl] at HD ⊢;have hde:ud=⟨#[]⟩:=ByteArray.ext (Array.eq_empty_of_size_eq_zero hd);subst hde;generalize putL C ⟨k,⟨#[]⟩,true⟩=C' at *;clear h1 hd;intro S W w L0 hO;simp only [CA] at hO;(replace hf:=fa_ hO);go_enter Tryz.func125,Tryz.ntmps125;go_wp2_with (first|(go_at_call 124;(with_reducible apply Calls.mono (HMG _ (hφ _ (Own.immOf (φ:=φ) hO pk_)));refine cu_ ?_;clear hO hf;intro w8 hO hf))|(go_at_call 93;(with_reducible apply Does.use hO (HD);exact tk_;refine du_ ?_;clear hO hf;intro x9 w9 hO hf))|(refine sq_ ?_;clear hO hf;intro w9 hO hf));go_ret;refine ⟨(),rfl,?_⟩;(try simp only [CA]);exact hO.cut sb_
theorem zO1 (q p since nn:Nat) (V:List (ByteArray×List Vn)) (B:ByteArray→ByteArray×Bool) (C:List Ch) (R:List Sp) (name:ByteArray) (u:Qu) (m:Ms) (hm0:0≤m.num) (hm:m.num≤999999)
 (hk:name.size≤200) (hC:C.length≤600) (hU:Ups C) (h1:putN C (zAa name m.num)=0) (hd:u.dead.size≠0) (hd2:u.dead.size≤6) (hy:∀k,zAU V k since=B k) (hys:∀k,(B k).1.size≤100) (hCs:∀c∈putL C (zAa name m.num),c.val.size≤100) (hR:R.length≤40) (hV:∀e∈V,e.2.length≤1000000) (h2:(zAO (B (queB u.dead)) (putL C (zAa name m.num)) R u.dead).2≠0) {φ:World→Prop} (hφ:∀w,φ w→LibOk w) :
 Does Tryz.prog 125 #[.pointer (some ⟨q,0,none⟩),.string name,u.v,m.v] [ViewR q p since C R,VerR p nn V,.imm φ]
  (fun _:Unit=>(errV (zAh B C R name u m).1,[ViewR q p since (zAh B C R name u m).2.1 (zAh B C R name u m).2.2,VerR p nn V,.imm φ])):=by
 have hms:=zAx name m.num.toNat;have HD:=zCW q p since C R (msgB name m.num.toNat) (by omega) (by omega) hU hφ;have HMG:=fun w h=>zBD name m.num w (by omega) h (by omega)
 have hK:=zFY (zAa name m.num) hU (by omega);have hl:=zSN (zAa name m.num) hC;have HF:=zCJ q p since nn V (putL C (zAa name m.num)) R u.dead _ (hy _) (hys _) hCs (by omega) (by omega) hK.1 hR hV hφ;unfold zAh;rw [if_neg (by rw [h1];exact fun h=>h rfl),if_neg hd,if_pos h2];generalize zAO (B (queB u.dead)) (putL C (zAa name m.num)) R u.dead=f at *;generalize zAI (putL C (zAa name m.num)) R u.dead=R2 at *;clear hK hl hCs;unfold zAa at *;rw [h1,show errV 0=.nilIface from rfl] at HD;generalize msgB name m.num.toNat=k at *;generalize putL C ⟨k,⟨#[]⟩,true⟩=C' at *;obtain ⟨mn,mt,mu,mb⟩:=m;obtain ⟨un,ut,ud⟩:=u;obtain ⟨⟨fn,ft,fd⟩,f2⟩:=f;unfold Ms.v Qu.v at *;dsimp only at *;have hne:ud.toList.isEmpty=false:=by
  have hq:ud.toList.length=ud.size:=by rw [ByteArray.toList_eq];rfl
  cases hl:ud.toList with
  | nil=>exact absurd (by rw [←hq,hl];rfl) hd
  | cons _ _=>rfl
 rcases zAk f2 with ⟨h0,e⟩ | ⟨M,h0,e⟩
 ·exact absurd h0 h2
 ·rw [e] at HF ⊢;clear e h0 h1 h2 hd;intro S W w L0 hO;simp only [CA] at hO;(replace hf:=fa_ hO);go_enter Tryz.func125,Tryz.ntmps125;go_wp2_with (first|(go_at_call 124;(with_reducible apply Calls.mono (HMG _ (hφ _ (Own.immOf (φ:=φ) hO pk_)));refine cu_ ?_;clear hO hf;intro w8 hO hf))|(go_at_call 93;(with_reducible apply Does.use hO (HD);exact tk_;refine du_ ?_;clear hO hf;intro x9 w9 hO hf))|(go_at_call 90;(with_reducible apply Does.use hO (HF);exact tk_;refine du_ ?_;clear hO hf;intro x9 w9 hO hf))|(refine sq_ ?_;clear hO hf;intro w9 hO hf));go_ret;refine ⟨(),rfl,?_⟩;(try simp only [CA]);exact hO.cut sb_
theorem zQD {C:List Ch} (c:Ch) (h:C.length≤600):(putL C c).length≤600:=by
 unfold putL;split
 ·rename_i h1;unfold putN at h1;split at h1
  ·rename_i h2;exact absurd h1 h2
  ·split at h1
   ·cases h1
   ·omega
 ·exact h
theorem zPQ (q p since nn:Nat) (V:List (ByteArray×List Vn)) (B:ByteArray→ByteArray×Bool) (C:List Ch) (R:List Sp) (name:ByteArray) (u:Qu) (m:Ms) (hm0:0≤m.num) (hm:m.num≤999999)
 (hk:name.size≤200) (hC:C.length≤600) (hU:Ups C) (h1:putN C (zAa name m.num)=0) (hd:u.dead.size≠0) (hd2:u.dead.size≤6) (hy:∀k,zAU V k since=B k) (hys:∀k,(B k).1.size≤100) (hCs:∀c∈putL C (zAa name m.num),c.val.size≤100) (hR:R.length≤40) (hV:∀e∈V,e.2.length≤1000000) (h2:(zAO (B (queB u.dead)) (putL C (zAa name m.num)) R u.dead).2=0) {φ:World→Prop} (hφ:∀w,φ w→LibOk w) :
 Does Tryz.prog 125 #[.pointer (some ⟨q,0,none⟩),.string name,u.v,m.v] [ViewR q p since C R,VerR p nn V,.imm φ]
  (fun _:Unit=>(errV (zAh B C R name u m).1,[ViewR q p since (zAh B C R name u m).2.1 (zAh B C R name u m).2.2,VerR p nn V,.imm φ])):=by
 have hms:=zAx name m.num.toNat;have HD:=zCW q p since C R (msgB name m.num.toNat) (by omega) (by omega) hU hφ;have HMG:=fun w h=>zBD name m.num w (by omega) h (by omega)
 have hK:=zFY (zAa name m.num) hU (by omega);have hl:=zQD (zAa name m.num) hC;have HF:=zCJ q p since nn V (putL C (zAa name m.num)) R u.dead _ (hy _) (hys _) hCs (by omega) (by omega) hK.1 hR hV hφ;unfold zAh;rw [if_neg (by rw [h1];exact fun h=>h rfl),if_neg hd,if_neg (by rw [h2];exact fun h=>h rfl)];obtain ⟨g0,g1,g2,_,_⟩:=zCw h2;have HS:=zIt q p since (putL C (zAa name m.num)) (zAI (putL C (zAa name m.num)) R u.dead) u.dead (zAO (B (queB u.dead)) (putL C (zAa name m.num)) R u.dead).1 m.body 0 g0 g1 (by omega) (by omega) (by omega) hK.1 hφ;generalize zAO (B (queB u.dead)) (putL C (zAa name m.num)) R u.dead=f at *;generalize zAI (putL C (zAa name m.num)) R u.dead=R2 at *;clear hK hl hCs;unfold zAa at *;rw [h1,show errV 0=.nilIface from rfl] at HD;generalize msgB name m.num.toNat=k at *;generalize putL C ⟨k,⟨#[]⟩,true⟩=C' at *;obtain ⟨mn,mt,mu,mb⟩:=m;obtain ⟨un,ut,ud⟩:=u;obtain ⟨⟨fn,ft,fd⟩,f2⟩:=f;unfold Ms.v Qu.v at *;dsimp only at *;have hne:ud.toList.isEmpty=false:=by
  have hq:ud.toList.length=ud.size:=by rw [ByteArray.toList_eq];rfl
  cases hl:ud.toList with
  | nil=>exact absurd (by rw [←hq,hl];rfl) hd
  | cons _ _=>rfl
 rw [h2,show errV 0=.nilIface from rfl] at HF;generalize zA8 C' ud ⟨fn,ft,fd⟩ mb 0=sr at *;obtain ⟨s1,s2,s3⟩:=sr;clear h1 h2 hd g0 g1 g2;dsimp only at *;intro S W w L0 hO;simp only [CA] at hO;(replace hf:=fa_ hO);go_enter Tryz.func125,Tryz.ntmps125;go_wp2_with (first|(go_at_call 124;(with_reducible apply Calls.mono (HMG _ (hφ _ (Own.immOf (φ:=φ) hO pk_)));refine cu_ ?_;clear hO hf;intro w8 hO hf))|(go_at_call 93;(with_reducible apply Does.use hO (HD);exact tk_;refine du_ ?_;clear hO hf;intro x9 w9 hO hf))|(go_at_call 90;(with_reducible apply Does.use hO (HF);exact tk_;refine du_ ?_;clear hO hf;intro x9 w9 hO hf))|(go_at_call 121;(with_reducible apply Does.use hO (HS);exact tk_;refine du_ ?_;clear hO hf;intro x9 w9 hO hf))|(refine sq_ ?_;clear hO hf;intro w9 hO hf));go_ret;refine ⟨(),rfl,?_⟩;(try simp only [CA]);exact hO.cut sb_
theorem zI7 (q p since nn:Nat) (V:List (ByteArray×List Vn)) (B:ByteArray→ByteArray×Bool) (C:List Ch) (R:List Sp) (name:ByteArray) (u:Qu) (m:Ms) (hm0:0≤m.num) (hm:m.num≤999999)
 (hk:name.size≤200) (hC:C.length≤600) (hU:Ups C) (hd2:u.dead.size≤6) (hy:∀k,zAU V k since=B k) (hys:∀k,(B k).1.size≤100) (hCs:∀c∈putL C (zAa name m.num),c.val.size≤100) (hR:R.length≤40) (hV:∀e∈V,e.2.length≤1000000) {φ:World→Prop} (hφ:∀w,φ w→LibOk w) :
 Does Tryz.prog 125 #[.pointer (some ⟨q,0,none⟩),.string name,u.v,m.v] [ViewR q p since C R,VerR p nn V,.imm φ]
  (fun _:Unit=>(errV (zAh B C R name u m).1,[ViewR q p since (zAh B C R name u m).2.1 (zAh B C R name u m).2.2,VerR p nn V,.imm φ])):=by
 by_cases h1:putN C (zAa name m.num)=0
 ·by_cases hd:u.dead.size=0
  ·exact zQM q p since nn V B C R name u m hm0 hm hk hC hU h1 hd hφ
  ·by_cases h2:(zAO (B (queB u.dead)) (putL C (zAa name m.num)) R u.dead).2=0
   ·exact zPQ q p since nn V B C R name u m hm0 hm hk hC hU h1 hd hd2 hy hys hCs hR hV h2 hφ
   ·exact zO1 q p since nn V B C R name u m hm0 hm hk hC hU h1 hd hd2 hy hys hCs hR hV h2 hφ
 ·exact zRJ q p since nn V B C R name u m hm0 hm hk hC hU h1 hφ
theorem zGh {P:Rw→Prop}:∀{C:List Ch} {l:List Rw},(∀r∈l,P r)→(∀c∈C,P ⟨c.key,c.val⟩)→∀r∈C.foldl appR l,P r
 | [],_,h,_=>h
 | c::C,l,h,hC=>zGh (C:=C) (l:=appR l c) (fun r hr=>by
  rcases zAi.1 hr with ⟨h1,_⟩ | ⟨_,h1⟩
  ·exact h r h1
  ·rw [h1];exact hC c (List.mem_cons_self ..)) fun d hd=>hC d (List.mem_cons_of_mem _ hd)
theorem SRows.add {R:List Rw} {C:List Ch} (h:SRows R) (hC:∀c∈C,ChOk c) (hl:(C.foldl appR R).length≤40):SRows (C.foldl appR R):=
 ⟨zEn h.ups,hl,zGh h.key fun c hc=>(hC c hc).1,zGh h.val fun c hc=>(hC c hc).2.2⟩
structure StUp (k:Nat) (d:Dk) (h:Hd) (R0:List Rw) (W:List (List Ch)) (u:Nat):Prop where
 st:StB k d.now h R0 W u
 calm:Calm d
 ok:DkOk k 1000 d
 fr:FreeB d.now 50 (k-50) h.fi u∨d.fuse=-1
def StOn (k:Nat) (d:Dk) (n:Nat) (R:List Rw):Prop:=∃h R0 W u,StUp k d h R0 W u∧zAF R0 W=R∧h.ep≤n∧d.fuse=-1
theorem StUp.ck {k:Nat} {d:Dk} {h:Hd} {R0:List Rw} {W:List (List Ch)} {u:Nat} (s:StUp k d h R0 W u) (he:h.ep+1≤5000) :
 (∃d',d.puts (ckW h (zAF R0 W)) ((h.ep+1) % 2) (zAQ (ckH k h (zAF R0 W)))=(0,d')∧StUp k d' (ckH k h (zAF R0 W)) (zAF R0 W) [] 0∧(d.fuse=-1→d'.fuse=-1))∨
 (d.fuse≠-1∧∃d',d.puts (ckW h (zAF R0 W)) ((h.ep+1) % 2) (zAQ (ckH k h (zAF R0 W)))=(10,d')∧DkFell k d'∧∀K:Int,StOn k (d'.restart K) (h.ep+1) (zAF R0 W)):=by
 obtain ⟨c1,c2⟩:=s.st.ck he;have hR:=s.st.now;have hl:=s.st.len;have k1:=s.st.k1;have s1:=s.st.s1;have hM:=zIg hR;rcases zJ8 (ws:=ckW h (zAF R0 W)) (n:=(h.ep+1) % 2) (s:=zAQ (ckH k h (zAF R0 W))) s.calm s.ok s.st.full (fun t ht=>⟨by have:=zOA (h:=h) hR (q:=t.1) (s:=t.2) ht;omega,zLk t ht⟩) (by omega) (by rw [zDw];omega) (by unfold ckW cws;rw [List.length_map,List.length_range];omega) with ⟨d',e,h1,h2,h3,h4⟩ | ⟨hne,d',e,h1,h2⟩
 ·exact .inl ⟨d',e,⟨by rw [h3];exact c1,h1,h2,.inl (by rw [h3];exact c2)⟩,h4⟩
 ·refine .inr ⟨hne,d',e,h1,fun K=>?_⟩;obtain ⟨q1,q2,q3,q4,q5,q6⟩:=h2 K;rcases q6 with q6 | q6
  ·exact ⟨h,R0,W,u,⟨(s.st.mixCk hR q6 q5 q4).1,q1,q2,.inr q3⟩,rfl,by omega,q3⟩
  ·exact ⟨_,_,[],0,⟨by rw [q6];exact c1,q1,q2,.inr q3⟩,rfl,Nat.le_refl _,q3⟩
theorem StUp.add {k:Nat} {d:Dk} {h:Hd} {R0:List Rw} {W:List (List Ch)} {u:Nat} {C:List Ch} (s:StUp k d h R0 W u) (hC:∀c∈C,ChOk c) (hu:u+C.length+1≤k-50) (hl:(C.foldl appR (zAF R0 W)).length≤40) :
 (∃d',d.addD 50 (k-50) h.fi u C=(0,d')∧StUp k d' h R0 (W++[C]) (u+C.length+1)∧(d.fuse=-1→d'.fuse=-1))∨
 (d.fuse≠-1∧∃d',d.addD 50 (k-50) h.fi u C=(10,d')∧DkFell k d'∧∀K:Int,StOn k (d'.restart K) h.ep (zAF R0 W)∨StOn k (d'.restart K) h.ep (C.foldl appR (zAF R0 W))):=by
 have hn:=s.st.now.add hC hl;have k1:=s.st.k1;have k2:=s.st.k2;have hlen:=s.st.len;have hA:=s.st.added hC hu hn;have hF:FreeB d.now 50 (k-50) h.fi u→FreeB (added d.now 50 (k-50) h.fi u C) 50 (k-50) h.fi (u+C.length+1):=fun hf=>hf.added s.st.f1 s.st.fb hu (by omega)
 have hpA:putB d.now (lws 50 (k-50) h.fi u C) (50+(u+C.length)) (secB 99 (h.fi+(u+C.length)) (four C.length))=added d.now 50 (k-50) h.fi u C:=rfl;rw [zQn];rcases zJ8 (ws:=lws 50 (k-50) h.fi u C) (n:=50+(u+C.length)) (s:=secB 99 (h.fi+(u+C.length)) (four C.length)) s.calm s.ok s.st.full (fun t ht=>⟨by have:=(zJW (frm:=50) (first:=h.fi) hC hu t ht).1;omega,(zJW (frm:=50) (first:=h.fi) hC hu t ht).2⟩) (by omega) (by rw [zDZ,zAw];omega) (by have:=zOk 50 (k-50) h.fi u C;omega) with ⟨d',e,h1,h2,h3,h4⟩ | ⟨hne,d',e,h1,h2⟩
 ·rw [hpA] at h3;exact .inl ⟨d',e,⟨by rw [h3];exact hA,h1,h2,s.fr.imp (fun hf=>by rw [h3];exact hF hf) h4⟩,h4⟩
 ·refine .inr ⟨hne,d',e,h1,fun K=>?_⟩;obtain ⟨q1,q2,q3,q4,q5,q6⟩:=h2 K;rw [hpA] at q6;rcases q6 with q6 | q6
  ·exact .inl ⟨h,R0,W,u,⟨s.st.mixAdd hC (s.fr.resolve_right hne) q6 q5 q4,q1,q2,.inr q3⟩,rfl,Nat.le_refl _,q3⟩
  ·exact .inr ⟨h,R0,W++[C],_,⟨by rw [q6];exact hA,q1,q2,.inr q3⟩,zEK ..,Nat.le_refl _,q3⟩
noncomputable def zAl (R:List Rw) (C:List Ch) (m:Nat):Nat:=
 if 12<C.length then 2 else if zBW C≠0 then zBW C else if 40<(C.foldl appR R).length then 8 else if m<C.length+1 then 8 else 0
def zEA (u n m:Nat):Nat:=if m<u+n+1 then n+1 else u+n+1
end Go.Proofs.YtagcmjmcjpjihaaGreatDoor
set_option linter.unnecessarySimpa false
namespace Go.Proofs.YtagcmjmcjpjihaaGreatDoor
open Go.RowKit Go.Lib
theorem zND {P:Program} {w:World} {ops:Array Oper} {rest:List Oper} {a:Act} {Q:Exit→Act→World→Prop} {o:Oper} (hgd:o.guard=none) (x:Operand) (src dst e:TypeId) (ho:o.op=.convert src dst x)
 (hs:P.underlying src=some (.slice e)) (he:P.underlying e=some (.int .u8)) (hd:P.underlying dst=some .string) (g j cap:Nat) (t:ByteArray) (hv:ValsAt w (some ⟨g,0,none⟩) (strCells t)) (hj:96*j<t.size)
 (hx:a.eval x=.slice (some ⟨g,96*j,none⟩) (min 96 (t.size-96*j)) cap) (h:wpList P ops Q rest (a.put o.dst (.string (t.extract (96*j) (96*j+96)))) w):wpList P ops Q (o::rest) a w:=by
 refine wpList_plain hgd fun K hK=>?_
 unfold Oper.wp execOp;have hsz:t.data.toList.length=t.size:=by simp
 have hll:(((t.data.toList.drop (96*j)).take 96)).length=min 96 (t.size-96*j):=by rw [List.length_take,List.length_drop,hsz]
 have h1:=run_convert_bytes_back (P:=P) w src dst e ⟨g,96*j,none⟩ cap ((t.data.toList.drop (96*j)).take 96) hs he hd fun i hi=>by
  rw [zBd];rw [hll] at hi;have hg:(strCells t)[96*j+i]?=some (.int .u8 (((t.data.toList.drop (96*j)).take 96)[i]'(by rw [hll];exact hi)).toNat):=by
   unfold strCells;rw [List.getElem?_map,List.getElem?_eq_getElem (by rw [hsz];omega)];simp
  have:=ValsAt.get hv hg
  rwa [Nat.zero_add] at this
 rw [hll] at h1;have h2:(⟨((t.data.toList.drop (96*j)).take 96).toArray⟩:ByteArray)=t.extract (96*j) (96*j+96):=zAS (by
  rw [ByteArray.data_extract,Array.toList_extract,List.extract_eq_take_drop,Nat.add_sub_cancel_left])
 rw [h2] at h1;simp only [ho,Sem.run_bind,hx,h1,Result.andThen_ok,Sem.run_pure];exact hK _ _ h
theorem zKL (p:Nat) (t:ByteArray) (a:Nat):∀n,∃r,cws p t (a+n)=cws p t a++r
 | 0=>⟨[],by simp⟩
 | n+1=>by
  obtain ⟨r,hr⟩:=zKL p t a n;exact ⟨r++[_],by rw [←Nat.add_assoc,zHo,hr,List.append_assoc]⟩
theorem zPL {d e:Dk} {p j:Nat} {t:ByteArray} (h:d.lays (cws p t j)=(0,e)):d.lays (cws p t (j+1))=e.writeR ((p+j:Nat):Int) (t.extract (96*j) (96*j+96)):=by
 rw [zHo,zHC h,zLY]
theorem zQq {d:Dk} {p j M:Nat} {t:ByteArray} (h:(d.lays (cws p t j)).1≠0) (hj:j≤M):d.lays (cws p t M)=d.lays (cws p t j):=by
 obtain ⟨r,hr⟩:=zKL p t j (M-j);rw [show j+(M-j)=M from by omega] at hr;rw [hr,zFJ,if_neg h]
def stgP (d:Dk) (ws:List (Nat×ByteArray)) (n:Nat) (s:ByteArray):Nat→Dk→Prop
 | 0,e=>d.lays ws=(0,e)
 | 1,e=>∃d1,d.lays ws=(0,d1)∧d1.flush=(0,e)
 | 2,e=>∃d1 d2,d.lays ws=(0,d1)∧d1.flush=(0,d2)∧d2.writeR (n:Int) s=(0,e)
 | 3,e=>d.puts ws n s=(0,e)
 | _,_=>False
section
variable {d d1 d2 d3:Dk} {ws:List (Nat×ByteArray)} {n:Nat} {s:ByteArray}
theorem zTV (h:(d.lays ws).1≠0):d.puts ws n s=d.lays ws:=by unfold Dk.puts;rw [if_neg h]
theorem zTW (h:d.lays ws=(0,d1)) (h1:d1.flush.1≠0):d.puts ws n s=d1.flush:=by
 unfold Dk.puts;rw [h];dsimp only;rw [if_pos rfl,if_neg h1]
theorem zTi (h:d.lays ws=(0,d1)) (h1:d1.flush=(0,d2)) (h2:(d2.writeR (n:Int) s).1≠0):d.puts ws n s=d2.writeR (n:Int) s:=by
 unfold Dk.puts;rw [h];dsimp only;rw [if_pos rfl,h1];dsimp only;rw [if_pos rfl,if_neg h2]
theorem zTp (h:d.lays ws=(0,d1)) (h1:d1.flush=(0,d2)) (h2:d2.writeR (n:Int) s=(0,d3)):d.puts ws n s=d3.flush:=by
 unfold Dk.puts;rw [h];dsimp only;rw [if_pos rfl,h1];dsimp only;rw [if_pos rfl,h2];dsimp only;rw [if_pos rfl]
end
theorem zRd (bs bh s p:Nat) (d:Dk) (k j:Nat) (H:Hd) (hD:DkOk k j d) (hj:j≤900000) (g0:H.ep≤2000000000) (g1:H.si≤2000000000) (g2:H.sz≤2000000000) (g3:H.fi≤2000000000) (h0 h1 h2 h3 lg mp:Value) :
 Does Tryz.prog 158 #[.pointer (some ⟨bs,0,none⟩),.pointer (some ⟨bh,0,none⟩)] [Var bs [.pointer (some ⟨s,0,none⟩)] 126,Var bh [.int .i64 (H.ep:Int),.int .i64 (H.si:Int),.int .i64 (H.sz:Int),.int .i64 (H.fi:Int)] 223,Var s [.pointer (some ⟨p,0,none⟩),h0,h1,h2,h3,lg,mp] 233,zAC p d]
  (fun _:Unit=>(errV (d.writeR ((H.ep % 2:Nat):Int) (zAQ H)).1,[Var bs [.pointer (some ⟨s,0,none⟩)] 126,Var bh [.int .i64 (H.ep:Int),.int .i64 (H.si:Int),.int .i64 (H.sz:Int),.int .i64 (H.fi:Int)] 223,Var s [.pointer (some ⟨p,0,none⟩),h0,h1,h2,h3,lg,mp] 233,zAC p (d.writeR ((H.ep % 2:Nat):Int) (zAQ H)).2])):=by
 have HT:=fun w=>zGd H w g0 g1 g2 g3
 unfold Hd.cells at HT;have HW:=zCH p d ((H.ep % 2:Nat):Int) (zAQ H) hD.f1 hD.f2 (by have:=hD.wait;omega);generalize zAQ H=z at *;obtain ⟨ep,si,sz,fi⟩:=H;dsimp only at *;rw [show ((ep % 2:Nat):Int)=(ep:Int) % 2 from by omega] at HW ⊢;generalize d.writeR ((ep:Int) % 2) z=r at *;obtain ⟨rc,e⟩:=r;dsimp only at HW ⊢;intro S W w L0 hO;simp only [CA] at hO;(replace hf:=fa_ hO);go_enter Tryz.func158,Tryz.ntmps158;go_wp2_with (refine sq_ ?_;clear hO hf;intro w9 hO hf);(refine rg_ hO ((1,0)::(0,1)::(0,2)::(1,3)::(0,4)::(1,5)::(0,6)::(1,7)::(3,8)::(5,9)::(0,10)::[]) ?_;clear hO;intro w9 hO;replace hf:=fa_ hO;(repeat (first|(apply zAG _ rfl rfl rfl;focus (intro w8 K8 hK8;(repeat (first | go_skip | go_guarded | go_step));exact hK8))|(apply zAJ _ rfl rfl rfl;focus (intro w8 hx8 K8 hK8;have hO:=hO.ext hx8;(replace hf:=fa_ hO);skip;(repeat (first | go_skip | go_guarded | go_step));exact hK8))|(apply zAL _ rfl;(focus (intro w8 hx8 K8 hK8;have hO:=hO.ext hx8;(replace hf:=fa_ hO);(repeat (first | go_skip | go_guarded | go_step | (first|(go_at_call 146;(with_reducible refine Calls.mono (HT _) ?_;rintro e7 w7 ⟨rfl,hx7⟩;dsimp only)))));(first | exact xt_ | exact hK8 _ xt_)));(focus (exact rfl));intro w8 hx8;replace hO:=hO.ext hx8;clear hx8;(replace hf:=fa_ hO)))));(refine zAE rfl ?_;intro K8 hK8;(repeat (first | go_skip | go_guarded | go_step));(go_at_call 144;(with_reducible refine Does.use hO (HW) tk_ (du_ ?_);clear hO hf;intro x9 w9 hO hf));(repeat go_step);refine hK8 _ _ trivial ?_;clear hK8 K8);(refine ss_ hO ?_;clear hO hf;intro w9 hO hf);refine zAA ?_;go_wp2_with (refine sq_ ?_;clear hO hf;intro w9 hO hf);go_ret;refine ⟨(),rfl,?_⟩;dsimp only;(try simp only [CA]);exact hO.cut sb_
attribute [local go_sem] Oper.semAt_some
theorem zEb {S:Nat→Prop} {W w:World} {L:List Rs} {G:World→Prop} {p:Addr} {v:Value} (hO:Own S W (w.setCell p v) L) (k:∀w',Own S W w' L→G w'):G (w.setCell p v):=k _ hO
theorem zLJ {P:Program} {ops:Array Oper} {I:World→Prop} {Q:Exit→Act→World→Prop} {t:Plan} {a:Act} {w:World} (h:∀a' Q',a'=a→Q'=Q→zAb P ops I Q' t a' w):zAb P ops I Q t a w:=h _ _ rfl rfl
theorem zFQ {S:Nat→Prop} {W w:World} {L:List Rs} {l:Nat} {rec:LoopState→Option Code→Obj} {R:Ending→World→Prop} {x:Exit} {a:Act} {p:Addr} {v:Value} (hO:Own S W (w.setCell p v) L) (k:∀w',Own S W w' L→zNI S W l rec R x a w'):zNI S W l rec R x a (w.setCell p v):=k _ hO
def ckT (s p m b:Nat) (H:Hd) (R:List Rw) (c:Nat) (e:Dk) (q':Nat):List Rs:=
 if c=0 then [Var s (stC p H.ep H.si H.sz H.fi q' b) 233,Var q' [.pointer (some ⟨p,0,none⟩),.int .i64 ((50:Nat):Int),.int .i64 (m:Int),.int .i64 (H.fi:Int),.int .i64 ((0:Nat):Int)] 295,StM b R,zAC p e,.imm LibOk]
 else [zAC p e,.imm LibOk]
theorem zQX (s b p q m u:Nat) (d:Dk) (h:Hd) (R:List Rw) (hR:SRows R) (hD:DkOk (m+50) 1000 d) (hm:4≤m) (hm2:m≤150) (hu:u≤m) (he:h.ep+1≤5000) (hs:h.si≤1) (hz:h.sz≤2304) (hfi:h.fi≤1000000) (hfm:h.fi+m≤1000000)
 (HP:∀e,d.puts (ckW h R) ((h.ep+1) % 2) (zAQ (ckH (m+50) h R))=(0,e)→e.down=false∧StB (m+50) e.now (ckH (m+50) h R) R [] 0) :
 Does Tryz.prog 80 #[.pointer (some ⟨s,0,none⟩)] [Var s (stC p h.ep h.si h.sz h.fi q b) 233,Var q [.pointer (some ⟨p,0,none⟩),.int .i64 ((50:Nat):Int),.int .i64 (m:Int),.int .i64 (h.fi:Int),.int .i64 (u:Int)] 295,StM b R,zAC p d,.imm LibOk]
  (fun q':Nat=>(errV (d.puts (ckW h R) ((h.ep+1) % 2) (zAQ (ckH (m+50) h R))).1,ckT s p m b (ckH (m+50) h R) R (d.puts (ckW h R) ((h.ep+1) % 2) (zAQ (ckH (m+50) h R))).1 (d.puts (ckW h R) ((h.ep+1) % 2) (zAQ (ckH (m+50) h R))).2 q')):=by
 have hM:=zIg hR;have HMM:=Lib.hid (show ckM R=((allT R).size+95) / 96 from rfl);have hTs:=hR.size;have HW:ckW h R=cws (2+24*(1-h.si)) (allT R) (ckM R):=rfl;have HHD:ckH (m+50) h R=⟨h.ep+1,1-h.si,(allT R).size,h.fi+m⟩:=by unfold ckH;rw [Nat.add_sub_cancel]
 rw [HW,HHD] at HP ⊢;clear HW HHD;obtain ⟨ep,si,sz,fi⟩:=h;dsimp only [stC] at *;obtain ⟨e2,he2,ge2⟩:∃e2,ep+1=e2∧e2≤5000:=⟨_,rfl,he⟩
 obtain ⟨s2,hs2,gs2⟩:∃s2,1-si=s2∧s2≤1:=⟨_,rfl,by omega⟩
 obtain ⟨f2,hf2,gf2⟩:∃f2,fi+m=f2∧f2≤1000000:=⟨_,rfl,hfm⟩
 rw [he2,hs2,hf2] at HP ⊢;have HE2:=Lib.hid he2;have HS2:=Lib.hid hs2;have HF2:=Lib.hid hf2;clear he2 hs2 hf2;have HALL:=zQ6 s b R hR (.pointer (some ⟨p,0,none⟩)) (.int .i64 ep) (.int .i64 si) (.int .i64 sz) (.int .i64 fi) (.pointer (some ⟨q,0,none⟩));have HNX:=zOv p q 50 m fi u (by omega) (by omega);have HCH:=fun g n cap=>zO9 g n cap
 have hP:=Lib.hid HP;have HR:=Lib.hid hR;clear HP hR;intro S W w L0 hO;simp only [CA] at hO;(replace hf:=fa_ hO);(refine zJj Tryz.func80 rfl ?_;simp only [Tryz.ntmps80,List.size_toArray,List.length_cons,List.length_nil,Nat.reduceAdd,Nat.reduceSub,Array.replicate_succ,Array.replicate_zero,List.push_toArray,List.append_toArray,List.nil_append,List.cons_append]);go_wp2_with (first|(go_at_call 155;(with_reducible refine Does.use hO (HALL) tk_ (du_ ?_);clear hO;(try clear hf);intro x9 w9 hO hf))|(refine sq_ ?_;clear hO;(try clear hf);intro w9 hO hf));(obtain ⟨bs,hg9⟩:=(hO.pick (r:=Var _ [.pointer (some ⟨s,0,none⟩)] 126) pk_).named;rw [←hg9];rw [←hg9] at hO;clear hg9);(obtain ⟨br,hg9⟩:=(hO.pick (r:=Var _ [.nilIface] 42) pk_).named;rw [←hg9];rw [←hg9] at hO;clear hg9);refine zDf (fun w8=>Own S W w8 (Var bs [.pointer (some ⟨s,0,none⟩)] 126::Var s [.pointer (some ⟨p,0,none⟩),.int .i64 (ep:Int),.int .i64 (si:Int),.int .i64 (sz:Int),.int .i64 (fi:Int),.pointer (some ⟨q,0,none⟩),.map (some b)] 233::Var q [.pointer (some ⟨p,0,none⟩),.int .i64 ((50:Nat):Int),.int .i64 (m:Int),.int .i64 (fi:Int),.int .i64 (u:Int)] 295::L0)) (fun _ _ h hx=>h.ext hx) (hO.cut sb_) [1,2,3,5,7,8,9,11,12,15,16,19,1000,1004,1006,1010,1013,1014,1017]
  (.see 0 <| .pure 1 <| .pure 2 <| .pure 3 <| .see 4 <| .pure 5 <| .see 6 <| .pure 7 <| .pure 8 <| .pure 9 <| .see 10 <| .pure 11 <| .pure 12 <| .see 13 <| .see 14 <| .pure 15 <| .pure 16 <| .see 17 <| .fork 18 (.pure 19 <| .one 20 <| .one 21 .done) 20 (.one 18 <| .pure 19 <| .one 21 .done)) (by kernel_rfl) (by kernel_rfl) (fun _ _ d _ _ h=>by cases d<;>exact h) ?_
 intro w9 hx9;replace hO:=hO.ext hx9;clear hx9;(replace hf:=fa_ hO);(repeat (first|(apply zBB _ rfl rfl rfl;focus (intro w8 K8 hK8;(repeat (first | go_skip | go_guarded | go_step));exact hK8))|(apply zBu _ rfl rfl rfl;focus (intro w8 hI8 K8 hK8;(try clear hf);have hf:=fa_ hI8;(repeat (first | go_skip | go_guarded | go_step));exact hK8))));refine zLJ fun a0 Q0 ha0 hQ0=>?_
 have key:∀(bh:Nat) (v34 v35:Value) (w':World),Own S W w' (Var bh [.int .i64 ((ep:Int)+1),.int .i64 (1-(si:Int)),.int .i64 ((allT R).size:Int),.int .i64 ((fi:Int)+m)] 223::Var bs [.pointer (some ⟨s,0,none⟩)] 126::Var br [.nilIface] 42::Var s [.pointer (some ⟨p,0,none⟩),.int .i64 (ep:Int),.int .i64 (si:Int),.int .i64 (sz:Int),.int .i64 (fi:Int),.pointer (some ⟨q,0,none⟩),.map (some b)] 233::Var q [.pointer (some ⟨p,0,none⟩),.int .i64 ((50:Nat):Int),.int .i64 (m:Int),.int .i64 (fi:Int),.int .i64 (u:Int)] 295::StM b R::zAC p d::.imm LibOk::L0)→Q0 .normal (((a0.put (some 34) v34).put (some 35) v35).put (some 4) (.pointer (some ⟨bh,0,none⟩))) w':=by
  clear hO hf;intro bh v34 v35 w' hO;rw [show ((ep:Int)+1)=(e2:Int) from by have:=HE2.out;omega,show 1-(si:Int)=(s2:Int) from by have:=HS2.out;omega,show (fi:Int)+m=(f2:Int) from by have:=HF2.out;omega] at hO;rw [ha0,hQ0];simp only [Act.put,List.setIfInBounds_toArray,List.set_cons_succ,List.set_cons_zero];(replace hf:=fa_ hO);go_wp2_with (first|((with_reducible show wpList _ _ _ (Oper.mk _ (.convert 9 244 _) _ _ _ _::_) _ _);(refine zHM hO rfl _ _ _ _ rfl Tryz.underlying9 Tryz.underlying244 Tryz.underlying5 (allT R) rfl (by unfold maxLen;omega) ?_;clear hO;intro g9 cap9 w9 hO hc1 hc2;(replace hf:=fa_ hO)))|(go_at_call 157;(with_reducible refine Does.use hO ((HCH _ _ _)) tk_ (du_ ?_);clear hO;(try clear hf);intro x9 w9 hO hf;(obtain ⟨c1,c2⟩:=x9;dsimp only at hO ⊢;(replace hf:=fa_ hO))))|(refine sq_ ?_;clear hO;(try clear hf);intro w9 hO hf));(obtain ⟨bi,hg9⟩:=(hO.pick (r:=Var _ [.int .i64 0] 3) pk_).named;rw [←hg9];rw [←hg9] at hO;clear hg9);refine zH9 hO rfl (enters_of Tryz.func221 (by kernel_rfl) rfl) ?_;intro fn l D w2 rec hrec hO2;obtain ⟨X,hX⟩:∃X:Nat→List Rs,X=fun j=>.pure ((d.lays (cws (2+24*s2) (allT R) j)).1=0∧DkOk (m+50) (1000+j) (d.lays (cws (2+24*s2) (allT R) j)).2)::Blk l (rec .ready none)::Blk D (.deferred (some []))::Var bh [.int .i64 (e2:Int),.int .i64 (s2:Int),.int .i64 ((allT R).size:Int),.int .i64 (f2:Int)] 223::Var bs [.pointer (some ⟨s,0,none⟩)] 126::Var br [.nilIface] 42::Var bi [.int .i64 ((j:Nat):Int)] 3::Var s [.pointer (some ⟨p,0,none⟩),.int .i64 (ep:Int),.int .i64 (si:Int),.int .i64 (sz:Int),.int .i64 (fi:Int),.pointer (some ⟨q,0,none⟩),.map (some b)] 233::Var q [.pointer (some ⟨p,0,none⟩),.int .i64 ((50:Nat):Int),.int .i64 (m:Int),.int .i64 (fi:Int),.int .i64 (u:Int)] 295::StM b R::zAC p (d.lays (cws (2+24*s2) (allT R) j)).2::.imm (fun w=>ValsAt w (some ⟨g9,0,none⟩) (strCells (allT R)))::.imm LibOk::L0:=⟨_,rfl⟩
  obtain ⟨Rx,hRx⟩:∃Rx:World→Prop,Rx=fun w'=>∃e',d.lays (cws (2+24*s2) (allT R) (ckM R))=(10,e')∧Own S W w' (Blk l (rec .done (some .ret))::Blk D (.deferred (some []))::Var bh [.int .i64 (e2:Int),.int .i64 (s2:Int),.int .i64 ((allT R).size:Int),.int .i64 (f2:Int)] 223::Var bs [.pointer (some ⟨s,0,none⟩)] 126::Var br [errV 10] 42::zAC p e'::.imm LibOk::L0):=⟨_,rfl⟩
  have HC:=zPd l c1 c2 g9 (allT R).size cap9 hc1 (by omega) hc2 (S:=S) (W:=W) X Rx ?hY w2 ?h0
  case h0=>
   rw [hX];dsimp only;have h7:=hO2.toPure (p:=(d.lays (cws (2+24*s2) (allT R) 0)).1=0∧DkOk (m+50) (1000+0) (d.lays (cws (2+24*s2) (allT R) 0)).2) ⟨rfl,hD⟩;rw [show (d.lays (cws (2+24*s2) (allT R) 0)).2=d from rfl] at h7 ⊢;rw [show ((0:Nat):Int)=0 from rfl];exact h7.cut sb_
  case hY=>
   intro j w3 hj hO;clear hO2 ha0 hQ0;rw [hX] at hO;have HX:=Lib.hid hX;have HRX:=Lib.hid hRx;have HREC:=Lib.hid hrec;clear hX hRx hrec;dsimp only at hO;obtain ⟨h0,hDk⟩:=Own.pureOf (p:=(d.lays (cws (2+24*s2) (allT R) j)).1=0∧DkOk (m+50) (1000+j) (d.lays (cws (2+24*s2) (allT R) j)).2) hO pk_;obtain ⟨e,hE⟩:∃e,d.lays (cws (2+24*s2) (allT R) j)=(0,e):=⟨_,Prod.ext h0 rfl⟩
   rw [hE] at hO hDk;dsimp only at hO hDk;have hE1:=zPL hE;have hST:=fun h=>zQq (d:=d) (p:=2+24*s2) (t:=allT R) (j:=j+1) (M:=ckM R) h (by have:=HMM.out;omega)
   have hsz:((allT R).extract (96*j) (96*j+96)).size≤96:=by rw [ByteArray.size_extract];omega
   have hcd:=zDG (d:=e) (n:=2+24*s2+j) (s:=(allT R).extract (96*j) (96*j+96)) (by rw [hDk.now];omega) hsz;have hD2:=hDk.write ((2+24*s2+j:Nat):Int) ((allT R).extract (96*j) (96*j+96));have HWR:=zCH p e ((2+24*s2+j:Nat):Int) ((allT R).extract (96*j) (96*j+96)) hDk.f1 hDk.f2 (by have:=hDk.wait;omega);rw [show ((2+24*s2+j:Nat):Int)=2+(s2:Int)*24+j from by omega] at HWR hcd hD2 hE1;replace hO:=hO.cut (l':=Blk l (rec .ready none)::Var c1 [.slice (some ⟨g9,0,none⟩) (allT R).size cap9] 244::Var c2 [.int .i64 96] 3::Blk D (.deferred (some []))::Var bh [.int .i64 (e2:Int),.int .i64 (s2:Int),.int .i64 ((allT R).size:Int),.int .i64 (f2:Int)] 223::Var bs [.pointer (some ⟨s,0,none⟩)] 126::Var br [.nilIface] 42::Var bi [.int .i64 ((j:Nat):Int)] 3::Var s [.pointer (some ⟨p,0,none⟩),.int .i64 (ep:Int),.int .i64 (si:Int),.int .i64 (sz:Int),.int .i64 (fi:Int),.pointer (some ⟨q,0,none⟩),.map (some b)] 233::Var q [.pointer (some ⟨p,0,none⟩),.int .i64 ((50:Nat):Int),.int .i64 (m:Int),.int .i64 (fi:Int),.int .i64 (u:Int)] 295::StM b R::zAC p e::.imm (fun w=>ValsAt w (some ⟨g9,0,none⟩) (strCells (allT R)))::.imm LibOk::L0) sb_;unfold zLZ;generalize e.writeR (2+(s2:Int)*24+j) ((allT R).extract (96*j) (96*j+96))=rr at *;obtain ⟨rc,e'⟩:=rr;dsimp only at hcd hD2 HWR;apply zQF HREC.out hO rfl
   ·intro K hK
    gi_wp2
    exact hK
   ·intro w4 hO
    gi_step
    gi_step
    gi_step
    (replace hf:=fa_ hO);(refine zJE (fun _ _ h=>h) (by kernel_rfl) (fun _=>True) (fun _ _ _ _=>trivial) trivial ((1,0)::(0,1)::(0,2)::(1,3)::(0,4)::(1,5)::(0,6)::(0,7)::(1,8)::(0,9)::(0,10)::(1,11)::(5,12)::(0,13)::[]) (by kernel_rfl) (by kernel_rfl) rfl (fun _ _ _ _ _ h=>h) ?_;intro w9 hx9;replace hO:=hO.ext hx9;clear hx9;(replace hf:=fa_ hO));(repeat (first|(apply zAG _ rfl rfl rfl;focus (intro w8 K8 hK8;(repeat (first | go_skip | go_guarded | go_step));exact hK8))|(apply zAJ _ rfl rfl rfl;focus (intro w8 hx8 K8 hK8;have hO:=hO.ext hx8;(replace hf:=fa_ hO);(try (refine zND (w:=w8) rfl _ _ _ _ rfl Tryz.underlying244 Tryz.underlying5 Tryz.underlying9 g9 j _ (allT R) (hO.factOf (r:=.imm (fun w=>ValsAt w (some ⟨g9,0,none⟩) (strCells (allT R)))) pk_) hj rfl ?_));(repeat (first | go_skip | go_guarded | go_step));exact hK8))|(apply zAL _ rfl;(focus (intro w8 hx8 K8 hK8;have hO:=hO.ext hx8;(replace hf:=fa_ hO);(repeat (first | go_skip | go_guarded | go_step | fail));(first | exact xt_ | exact hK8 _ xt_)));(focus (exact rfl));intro w8 hx8;replace hO:=hO.ext hx8;clear hx8;(replace hf:=fa_ hO))));rcases hcd with rfl | rfl
    ·rw [show errV 0=.nilIface from rfl] at HWR;(refine zAE rfl ?_;intro K8 hK8;(repeat (first | go_skip | go_guarded | go_step));(go_at_call 144;(with_reducible refine Does.use hO (HWR) tk_ (du_ ?_);clear hO;(try clear hf);intro x9 w9 hO hf));(repeat go_step);refine hK8 _ _ trivial ?_;clear hK8 K8);(refine ss_ hO ?_;clear hO;(try clear hf);intro w9 hO hf);refine zAA ?_;replace hO:=hO.pick (r:=Blk l (rec .busy none)) pk_;(replace hf:=fa_ hO)
     gi_wp2
     apply zFQ
     focus exact st_ hO
     clear hO;intro w5 hO;dsimp only [List.set] at hO;refine ⟨_,hO,fun w5 hO=>.inl ⟨rfl,?_⟩⟩;have h7:=hO.toPure (p:=(d.lays (cws (2+24*s2) (allT R) (j+1))).1=0∧DkOk (m+50) (1000+(j+1)) (d.lays (cws (2+24*s2) (allT R) (j+1))).2) (by rw [hE1];exact ⟨rfl,hD2⟩);rw [HX.out];dsimp only;rw [hE1] at h7 ⊢;rw [show ((j+1:Nat):Int)=(j:Int)+1 from by omega];exact h7.cut sb_
    ·rw [show errV 10=.iface 124 (.int .i64 10) from rfl] at HWR;(refine zAE rfl ?_;intro K8 hK8;(repeat (first | go_skip | go_guarded | go_step));(go_at_call 144;(with_reducible refine Does.use hO (HWR) tk_ (du_ ?_);clear hO;(try clear hf);intro x9 w9 hO hf));(repeat go_step);refine hK8 _ _ trivial ?_;clear hK8 K8);(refine ss_ hO ?_;clear hO;(try clear hf);intro w9 hO hf);refine zAA ?_;replace hO:=hO.pick (r:=Blk l (rec .busy none)) pk_;(replace hf:=fa_ hO)
     gi_wp2
     apply zFQ
     focus exact st_ hO
     clear hO;intro w5 hO;dsimp only [List.set] at hO;refine ⟨_,hO,fun w5 hO=>.inr ⟨rfl,?_⟩⟩;rw [HRX.out];refine ⟨e',(hST (by rw [hE1];simp)).trans hE1,?_⟩;rw [show errV 10=.iface 124 (.int .i64 10) from rfl];exact hO.cut sb_
  ·refine Calls.mono (show Calls Tryz.prog 221 _ _ _ from HC) ?_;rintro e w3 ⟨⟨v,rfl⟩,hOK | hNO⟩
   ·rw [hX] at hOK;dsimp only at hOK;obtain ⟨h0,hDk⟩:=Own.pureOf (p:=(d.lays (cws (2+24*s2) (allT R) (((allT R).size+95) / 96))).1=0∧DkOk (m+50) (1000+((allT R).size+95) / 96) (d.lays (cws (2+24*s2) (allT R) (((allT R).size+95) / 96))).2) hOK pk_;rw [←HMM.out] at h0 hDk hOK;obtain ⟨e,hE⟩:∃e,d.lays (cws (2+24*s2) (allT R) (ckM R))=(0,e):=⟨_,Prod.ext h0 rfl⟩
    rw [hE] at hOK hDk;dsimp only at hOK hDk;have hO:=hOK.cut (l':=Blk l (rec .ready none)::Blk D (.deferred (some []))::Var bh [.int .i64 (e2:Int),.int .i64 (s2:Int),.int .i64 ((allT R).size:Int),.int .i64 (f2:Int)] 223::Var bs [.pointer (some ⟨s,0,none⟩)] 126::Var br [.nilIface] 42::Var s [.pointer (some ⟨p,0,none⟩),.int .i64 (ep:Int),.int .i64 (si:Int),.int .i64 (sz:Int),.int .i64 (fi:Int),.pointer (some ⟨q,0,none⟩),.map (some b)] 233::Var q [.pointer (some ⟨p,0,none⟩),.int .i64 ((50:Nat):Int),.int .i64 (m:Int),.int .i64 (fi:Int),.int .i64 (u:Int)] 295::StM b R::zAC p e::.imm LibOk::L0) sb_;clear hOK h0 hX hRx HC hO2;refine ⟨v,rfl,.ready,none,_,by simp,hO,fun w4 hO=>?_⟩;dsimp only [zM4];(replace hf:=fa_ hO);go_wp2_with (refine sq_ ?_;clear hO;(try clear hf);intro w9 hO hf);have hmf:∀(fn:Fn) (first cap:Array Value) (w:World),(Instr.makeFunc fn first cap).run Tryz.prog w=.ok (.func fn first cap) w:=fun _ _ _ _=>rfl
    (refine rg_ hO ((1,0)::(0,1)::(0,2)::(1,3)::(0,4)::(0,5)::(1,6)::(0,7)::(0,8)::(1,9)::(0,10)::(0,13)::(4,11)::(1,12)::[]) ?_;clear hO;intro w9 hO;replace hf:=fa_ hO;(refine ss_ hO ?_;clear hO;(try clear hf);intro w9 hO hf));(refine zBt rfl ?_;intro K8 hK8;(repeat (first | go_skip | go_guarded | go_step));refine hK8 _ _ xt_ ?_;clear hK8 K8;with_reducible refine zAV hO ?_;clear hO;intro w9 hO;(replace hf:=fa_ hO));(refine ss_ hO ?_;clear hO;(try clear hf);intro w9 hO hf);refine zAA ?_;go_wp2_with (refine sq_ ?_;clear hO;(try clear hf);intro w9 hO hf);(obtain ⟨bf,hg9⟩:=(hO.pick (r:=Var _ _ 56) pk_).named;rw [←hg9];rw [←hg9] at hO;clear hg9);have HS0:=Lib.hid (show stgP d (cws (2+24*s2) (allT R) (ckM R)) ((e2) % 2) (zAQ ⟨e2,s2,(allT R).size,f2⟩) 0 e from hE);clear hE ha0 hQ0;have hO9:=hO;clear hO hf;go_loopw [71] (fun v wr=>∃(i:Nat) (e:Dk),v=.int .i64 i∧Hid (stgP d (cws (2+24*s2) (allT R) (ckM R)) ((e2) % 2) (zAQ ⟨e2,s2,(allT R).size,f2⟩) i e)∧DkOk (m+50) (1100+20*i) e∧Own S W wr ([Blk D (.deferred (some [])),Var bh [.int .i64 (e2:Int),.int .i64 (s2:Int),.int .i64 ((allT R).size:Int),.int .i64 (f2:Int)] 223,Var bs [.pointer (some ⟨s,0,none⟩)] 126,Var br [.nilIface] 42,Var bf [.func (.func 145) #[.pointer (some ⟨p,0,none⟩)] #[],.func (.func 158) #[] #[.pointer (some ⟨bs,0,none⟩),.pointer (some ⟨bh,0,none⟩)],.func (.func 145) #[.pointer (some ⟨p,0,none⟩)] #[]] 56,Var s [.pointer (some ⟨p,0,none⟩),.int .i64 (ep:Int),.int .i64 (si:Int),.int .i64 (sz:Int),.int .i64 (fi:Int),.pointer (some ⟨q,0,none⟩),.map (some b)] 233,Var q [.pointer (some ⟨p,0,none⟩),.int .i64 ((50:Nat):Int),.int .i64 (m:Int),.int .i64 (fi:Int),.int .i64 (u:Int)] 295,StM b R,zAC p e,.imm LibOk]++L0)) (fun v _=>4-(intOf v).toNat)
    case atStart=>exact ⟨0,e,rfl,HS0,hDk.mono (by omega),by (try simp only [CA]);exact hO9.cut sb_⟩
    case round=>
     clear hO9 HS0 hDk;obtain ⟨i,e,rfl,HS,hDe,hO⟩:=hrel;rename World=>w1
     simp only [List.cons_append,List.nil_append] at hO;(replace hf:=fa_ hO)
     match i,HS with
     | 0,HS=>
      have hS:d.lays (cws (2+24*s2) (allT R) (ckM R))=(0,e):=HS.out;clear HS;have H1:=zC7 p e hDe.f1 hDe.f2 (by rw [hDe.now];omega) (by rw [hDe.now,hDe.kept]);have hcd:=zD7 e;have hD2:=hDe.flush;have hA0:=fun h=>zTW (d:=d) (ws:=(cws (2+24*s2) (allT R) (ckM R))) (n:=((e2) % 2)) (s:=(zAQ ⟨e2,s2,(allT R).size,f2⟩)) hS (d1:=e) h
      have hst:=fun (h:e.flush.1=0)=>show stgP d (cws (2+24*s2) (allT R) (ckM R)) ((e2) % 2) (zAQ ⟨e2,s2,(allT R).size,f2⟩) 1 e.flush.2 from ⟨e,hS,Prod.ext h rfl⟩
      clear hS;generalize e.flush=r at *;obtain ⟨rc,e'⟩:=r;dsimp only at H1 hcd hD2 hA0 hst;rcases hcd with rfl | rfl
      ·rw [show errV 0=.nilIface from rfl] at H1;have HST:=Lib.hid (hst rfl);clear hA0 hst;have hD3:DkOk (m+50) (1100+20*(0+1)) e':=⟨hD2.now,hD2.kept,hD2.f1,hD2.f2,by have:=hD2.wait;omega,hD2.ats⟩
       clear hD2;go_wp2_with (first|(go_at_call 145;(with_reducible refine Does.use hO (H1) tk_ (du_ ?_);clear hO;(try clear hf);intro x9 w9 hO hf))|(refine sq_ ?_;clear hO;(try clear hf);intro w9 hO hf));refine ⟨⟨1,e',by go_num,HST,hD3,?_⟩,by simp [intOf]⟩;(try simp only [CA]);exact hO.cut sb_
      ·have HE:=Lib.hid (hA0 (by omega));clear hA0 hst hD2;rw [show errV 10=.iface 124 (.int .i64 10) from rfl] at H1;go_wp2_with (first|(go_at_call 145;(with_reducible refine Does.use hO (H1) tk_ (du_ ?_);clear hO;(try clear hf);intro x9 w9 hO hf))|(with_reducible apply zEd;(focus (exact st_ hO));clear hO;intro w9 hO;(try dsimp only [List.set] at hO);(replace hf:=fa_ hO))|(refine sq_ ?_;clear hO;(try clear hf);intro w9 hO hf));(refine zGo rfl (hO.pick (r:=Blk D (.deferred (some []))) pk_) (fun w5 hO=>?_);(replace hf:=fa_ hO);refine ⟨(.iface 124 (.int .i64 10)),by simp [results,Tryz.results80,go_sem,hf],0,?_,?_⟩;(focus (rw [HE.out];rfl));rw [HE.out];dsimp only;rw [show ckT _ _ _ _ _ _ 10 _ _=[zAC p _,.imm LibOk] from rfl];(try simp only [CA]);exact hO.cut sb_)
     | 1,HS=>
      obtain ⟨d1,hS,hS1⟩:∃d1,d.lays (cws (2+24*s2) (allT R) (ckM R))=(0,d1)∧d1.flush=(0,e):=HS.out;clear HS;have H1:=zRd bs bh s p e (m+50) (1100+20*1) ⟨e2,s2,(allT R).size,f2⟩ hDe (by omega) (by dsimp only;omega) (by dsimp only;omega) (by dsimp only;omega) (by dsimp only;omega) (.int .i64 (ep:Int)) (.int .i64 (si:Int)) (.int .i64 (sz:Int)) (.int .i64 (fi:Int)) (.pointer (some ⟨q,0,none⟩)) (.map (some b));have hcd:=zDG (d:=e) (n:=((e2) % 2)) (s:=(zAQ ⟨e2,s2,(allT R).size,f2⟩)) (by rw [hDe.now];omega) (by rw [zDw];omega);have hD2:=hDe.write (((((e2) % 2):Nat)):Int) (zAQ ⟨e2,s2,(allT R).size,f2⟩);have hA0:=fun h=>zTi (d:=d) (ws:=(cws (2+24*s2) (allT R) (ckM R))) (n:=((e2) % 2)) (s:=(zAQ ⟨e2,s2,(allT R).size,f2⟩)) hS hS1 h
      have hst:=fun (h:(e.writeR (((((e2) % 2):Nat)):Int) (zAQ ⟨e2,s2,(allT R).size,f2⟩)).1=0)=>show stgP d (cws (2+24*s2) (allT R) (ckM R)) ((e2) % 2) (zAQ ⟨e2,s2,(allT R).size,f2⟩) 2 (e.writeR (((((e2) % 2):Nat)):Int) (zAQ ⟨e2,s2,(allT R).size,f2⟩)).2 from ⟨d1,e,hS,hS1,Prod.ext h rfl⟩
      clear hS hS1;generalize e.writeR (((((e2) % 2):Nat)):Int) (zAQ ⟨e2,s2,(allT R).size,f2⟩)=r at *;obtain ⟨rc,e'⟩:=r;dsimp only at H1 hcd hD2 hA0 hst;rcases hcd with rfl | rfl
      ·rw [show errV 0=.nilIface from rfl] at H1;have HST:=Lib.hid (hst rfl);clear hA0 hst;have hD3:DkOk (m+50) (1100+20*(1+1)) e':=⟨hD2.now,hD2.kept,hD2.f1,hD2.f2,by have:=hD2.wait;omega,hD2.ats⟩
       clear hD2;go_wp2_with (first|(go_at_call 158;(with_reducible refine Does.use hO (H1) tk_ (du_ ?_);clear hO;(try clear hf);intro x9 w9 hO hf))|(refine sq_ ?_;clear hO;(try clear hf);intro w9 hO hf));refine ⟨⟨2,e',by go_num,HST,hD3,?_⟩,by simp [intOf]⟩;(try simp only [CA]);exact hO.cut sb_
      ·have HE:=Lib.hid (hA0 (by omega));clear hA0 hst hD2;rw [show errV 10=.iface 124 (.int .i64 10) from rfl] at H1;go_wp2_with (first|(go_at_call 158;(with_reducible refine Does.use hO (H1) tk_ (du_ ?_);clear hO;(try clear hf);intro x9 w9 hO hf))|(with_reducible apply zEd;(focus (exact st_ hO));clear hO;intro w9 hO;(try dsimp only [List.set] at hO);(replace hf:=fa_ hO))|(refine sq_ ?_;clear hO;(try clear hf);intro w9 hO hf));(refine zGo rfl (hO.pick (r:=Blk D (.deferred (some []))) pk_) (fun w5 hO=>?_);(replace hf:=fa_ hO);refine ⟨(.iface 124 (.int .i64 10)),by simp [results,Tryz.results80,go_sem,hf],0,?_,?_⟩;(focus (rw [HE.out];rfl));rw [HE.out];dsimp only;rw [show ckT _ _ _ _ _ _ 10 _ _=[zAC p _,.imm LibOk] from rfl];(try simp only [CA]);exact hO.cut sb_)
     | 2,HS=>
      obtain ⟨d1,d2,hS,hS1,hS2⟩:∃d1 d2,d.lays (cws (2+24*s2) (allT R) (ckM R))=(0,d1)∧d1.flush=(0,d2)∧d2.writeR (((((e2) % 2):Nat)):Int) (zAQ ⟨e2,s2,(allT R).size,f2⟩)=(0,e):=HS.out;clear HS;have H1:=zC7 p e hDe.f1 hDe.f2 (by rw [hDe.now];omega) (by rw [hDe.now,hDe.kept]);have hcd:=zD7 e;have hD2:=hDe.flush;have hA1:=zTp (d:=d) (ws:=(cws (2+24*s2) (allT R) (ckM R))) (n:=((e2) % 2)) (s:=(zAQ ⟨e2,s2,(allT R).size,f2⟩)) hS hS1 hS2;have hA0:=fun (_:e.flush.1≠0)=>hA1
      have hst:=fun (h:e.flush.1=0)=>show stgP d (cws (2+24*s2) (allT R) (ckM R)) ((e2) % 2) (zAQ ⟨e2,s2,(allT R).size,f2⟩) 3 e.flush.2 from hA1.trans (Prod.ext h rfl)
      clear hA1;clear hS hS1 hS2;generalize e.flush=r at *;obtain ⟨rc,e'⟩:=r;dsimp only at H1 hcd hD2 hA0 hst;rcases hcd with rfl | rfl
      ·rw [show errV 0=.nilIface from rfl] at H1;have HST:=Lib.hid (hst rfl);clear hA0 hst;have hD3:DkOk (m+50) (1100+20*(2+1)) e':=⟨hD2.now,hD2.kept,hD2.f1,hD2.f2,by have:=hD2.wait;omega,hD2.ats⟩
       clear hD2;go_wp2_with (first|(go_at_call 145;(with_reducible refine Does.use hO (H1) tk_ (du_ ?_);clear hO;(try clear hf);intro x9 w9 hO hf))|(refine sq_ ?_;clear hO;(try clear hf);intro w9 hO hf));refine ⟨⟨3,e',by go_num,HST,hD3,?_⟩,by simp [intOf]⟩;(try simp only [CA]);exact hO.cut sb_
      ·have HE:=Lib.hid (hA0 (by omega));clear hA0 hst hD2;rw [show errV 10=.iface 124 (.int .i64 10) from rfl] at H1;go_wp2_with (first|(go_at_call 145;(with_reducible refine Does.use hO (H1) tk_ (du_ ?_);clear hO;(try clear hf);intro x9 w9 hO hf))|(with_reducible apply zEd;(focus (exact st_ hO));clear hO;intro w9 hO;(try dsimp only [List.set] at hO);(replace hf:=fa_ hO))|(refine sq_ ?_;clear hO;(try clear hf);intro w9 hO hf));(refine zGo rfl (hO.pick (r:=Blk D (.deferred (some []))) pk_) (fun w5 hO=>?_);(replace hf:=fa_ hO);refine ⟨(.iface 124 (.int .i64 10)),by simp [results,Tryz.results80,go_sem,hf],0,?_,?_⟩;(focus (rw [HE.out];rfl));rw [HE.out];dsimp only;rw [show ckT _ _ _ _ _ _ 10 _ _=[zAC p _,.imm LibOk] from rfl];(try simp only [CA]);exact hO.cut sb_)
     | 3,HS=>
      have hS:d.puts (cws (2+24*s2) (allT R) (ckM R)) ((e2) % 2) (zAQ ⟨e2,s2,(allT R).size,f2⟩)=(0,e):=HS.out;obtain ⟨hdn,hst⟩:=hP.out e hS;have HE:=Lib.hid hS;clear hS HS;have HSC:=zBE p e;rw [hst.len,show ((m+50:Nat):Int)=(m:Int)+50 from by omega] at HSC;have HOP:=zKJ p e 50 m (f2) (secs e.now 50 m) [] 0 hdn (by omega) (by rw [hst.len];omega) (by rw [hst.len];omega) hst.full hst.f1 (by omega) rfl (by have:=hst.sc;rw [Nat.add_sub_cancel] at this;exact this);clear hst hdn;go_wp2_with (refine sq_ ?_;clear hO;(try clear hf);intro w9 hO hf);(refine rg_ hO ((1,0)::(0,1)::(0,2)::(1,3)::(1,4)::(0,5)::(0,6)::(1,7)::(3,8)::(0,9)::(0,10)::(1,11)::(5,12)::(0,13)::(0,14)::(0,15)::(0,16)::(0,17)::(0,18)::(0,19)::[]) ?_;clear hO;intro w9 hO;replace hf:=fa_ hO;(repeat (first|(apply zAG _ rfl rfl rfl;focus (intro w8 K8 hK8;(repeat (first | go_skip | go_guarded | go_step));exact hK8))|(apply zAJ _ rfl rfl rfl;focus (intro w8 hx8 K8 hK8;have hO:=hO.ext hx8;(replace hf:=fa_ hO);skip;(repeat (first | go_skip | go_guarded | go_step));exact hK8))|(apply zAL _ rfl;(focus (intro w8 hx8 K8 hK8;have hO:=hO.ext hx8;(replace hf:=fa_ hO);(repeat (first | go_skip | go_guarded | go_step | (go_at_call 143;(with_reducible refine Reads.use hO (HSC) tk_ ?_;intro w7 hx7 hO7;clear hO7;dsimp only))));(first | exact xt_ | exact hK8 _ xt_)));(focus (exact rfl));intro w8 hx8;replace hO:=hO.ext hx8;clear hx8;(replace hf:=fa_ hO)))));(refine zAE rfl ?_;intro K8 hK8;(repeat (first | go_skip | go_guarded | go_step));(go_at_call 159;(with_reducible refine Does.use hO (HOP) tk_ (du_ ?_);clear hO;(try clear hf);intro x9 w9 hO hf;(obtain ⟨q9,⟨oa,oc⟩,DD⟩:=x9;dsimp only at hO ⊢;(replace hf:=fa_ hO))));(repeat go_step);refine hK8 _ _ trivial ?_;clear hK8 K8);(refine ss_ hO ?_;clear hO;(try clear hf);intro w9 hO hf);refine zAA ?_;go_wp2_with (refine sq_ ?_;clear hO;(try clear hf);intro w9 hO hf);(refine zAW (fun w8=>Own _ _ w8 (Var bs [.pointer (some ⟨s,0,none⟩)] 126::Var bh [.int .i64 (e2:Int),.int .i64 (s2:Int),.int .i64 ((allT R).size:Int),.int .i64 (f2:Int)] 223::L0)) (fun _ _ h hx=>h.ext hx) (hO.cut sb_) ((2,0)::(2,1)::(2,2)::(0,3)::(0,4)::(0,5)::(5,6)::(0,7)::(0,8)::(5,9)::[]) (by kernel_rfl) (by kernel_rfl) rfl (fun _ _ d _ _ h=>by cases d<;>exact h) ?_;intro w9 hx9;replace hO:=hO.ext hx9;clear hx9;(replace hf:=fa_ hO);(repeat (first|(apply zAG _ rfl rfl rfl;focus (intro w8 K8 hK8;(repeat (first | go_skip | go_guarded | go_step));exact hK8))|(apply zCD _ rfl rfl rfl;focus (intro w8 hI8 K8 hK8;(try clear hf);have hf:=hI8.facts;(try simp only [FZ,Nat.reduceAdd] at hf);skip;(repeat (first | go_skip | go_guarded | go_step));exact hK8)))));(refine zAE rfl ?_;intro K8 hK8;(repeat (first | go_skip | go_guarded | go_step));(apply zEb (G:=K8 _ _));(focus (exact st_ hO));clear hO;intro w9 hO;(try dsimp only [List.set] at hO);(replace hf:=fa_ hO);refine hK8 _ _ (hO.cut sb_) ?_;clear hK8 K8);(repeat (first|(apply zAG _ rfl rfl rfl;focus (intro w8 K8 hK8;(repeat (first | go_skip | go_guarded | go_step));exact hK8))|(apply zCD _ rfl rfl rfl;focus (intro w8 hI8 K8 hK8;(try clear hf);have hf:=hI8.facts;(try simp only [FZ,Nat.reduceAdd] at hf);skip;(repeat (first | go_skip | go_guarded | go_step));exact hK8))));(refine zAE rfl ?_;intro K8 hK8;(repeat (first | go_skip | go_guarded | go_step));(apply zEb (G:=K8 _ _));(focus (exact st_ hO));clear hO;intro w9 hO;(try dsimp only [List.set] at hO);(replace hf:=fa_ hO);refine hK8 _ _ (hO.cut sb_) ?_;clear hK8 K8);refine zAA ?_;go_wp2_with (first|(with_reducible apply zEd;(focus (exact st_ hO));clear hO;intro w9 hO;(try dsimp only [List.set] at hO);(replace hf:=fa_ hO))|(refine sq_ ?_;clear hO;(try clear hf);intro w9 hO hf));(refine zGo rfl (hO.pick (r:=Blk D (.deferred (some []))) pk_) (fun w5 hO=>?_);(replace hf:=fa_ hO);refine ⟨.nilIface,by simp [results,Tryz.results80,go_sem,hf],q9,?_,?_⟩;(focus (rw [HE.out];rfl));rw [HE.out];dsimp only;unfold ckT;rw [if_pos rfl];dsimp only [stC];(try simp only [CA]);exact hO.cut sb_)
     | i+4,HS=>exact HS.out.elim
   ·rw [hRx] at hNO;obtain ⟨e',hE,hO⟩:=hNO;refine ⟨v,rfl,.done,some .ret,_,by simp,hO,fun w4 hO=>?_⟩;dsimp only [zM4];clear hX hRx HC hO2;have HE:=Lib.hid ((zTV (n:=(e2) % 2) (s:=zAQ ⟨e2,s2,(allT R).size,f2⟩) (by rw [hE];simp)).trans hE);clear hE;rw [show errV 10=.iface 124 (.int .i64 10) from rfl] at hO;(replace hf:=fa_ hO);go_wp2_with (refine sq_ ?_;clear hO;(try clear hf);intro w9 hO hf);(refine zGo rfl (hO.pick (r:=Blk D (.deferred (some []))) pk_) (fun w5 hO=>?_);(replace hf:=fa_ hO);refine ⟨(.iface 124 (.int .i64 10)),by simp [results,Tryz.results80,go_sem,hf],0,?_,?_⟩;(focus (rw [HE.out];rfl));rw [HE.out];dsimp only;rw [show ckT _ _ _ _ _ _ 10 _ _=[zAC p _,.imm LibOk] from rfl];(try simp only [CA]);exact hO.cut sb_)
 subst ha0 hQ0;simp only [Act.put,List.setIfInBounds_toArray,List.set_cons_succ,List.set_cons_zero] at key;refine zDd rfl rfl ?_ ?_
 ·(intro K8 hK8;(repeat (first | go_skip | go_guarded | go_step));(go_at_call 156;(with_reducible refine Reads.use hO (HNX) tk_ (ru_ ?_);clear hO;(try clear hf);intro w9 hO hf));(repeat go_step);refine hK8 _ _ (hO.cut sb_) ?_;clear hK8 K8);(repeat (first|(apply zBB _ rfl rfl rfl;focus (intro w8 K8 hK8;(repeat (first | go_skip | go_guarded | go_step));exact hK8))|(apply zBu _ rfl rfl rfl;focus (intro w8 hI8 K8 hK8;(try clear hf);have hf:=fa_ hI8;(repeat (first | go_skip | go_guarded | go_step));exact hK8))));refine zAo rfl ?_;(intro K8 hK8;(repeat (first | go_skip | go_guarded | go_step));refine hK8 _ _ ((hO.alloc _ _).cut sb_) ?_;clear hK8 K8;with_reducible refine zAz hO ?_;clear hO;intro w9 hO;(replace hf:=fa_ hO));refine zAo rfl ?_;(intro K8 hK8;(repeat (first | go_skip | go_guarded | go_step));(apply zEb (G:=K8 _ _));(focus (exact st_ hO));clear hO;intro w9 hO;(try dsimp only [List.set] at hO);(replace hf:=fa_ hO);refine hK8 _ _ (hO.cut sb_) ?_;clear hK8 K8);refine zBV ?_;exact key _ _ _ _ (hO.cut sb_)
 ·(intro K8 hK8;(repeat (first | go_skip | go_guarded | go_step));refine hK8 _ _ ((hO.alloc _ _).cut sb_) ?_;clear hK8 K8;with_reducible refine zAz hO ?_;clear hO;intro w9 hO;(replace hf:=fa_ hO));refine zAo rfl ?_;(intro K8 hK8;(repeat (first | go_skip | go_guarded | go_step));(go_at_call 156;(with_reducible refine Reads.use hO (HNX) tk_ (ru_ ?_);clear hO;(try clear hf);intro w9 hO hf));(repeat go_step);refine hK8 _ _ (hO.cut sb_) ?_;clear hK8 K8);(repeat (first|(apply zBB _ rfl rfl rfl;focus (intro w8 K8 hK8;(repeat (first | go_skip | go_guarded | go_step));exact hK8))|(apply zBu _ rfl rfl rfl;focus (intro w8 hI8 K8 hK8;(try clear hf);have hf:=fa_ hI8;(repeat (first | go_skip | go_guarded | go_step));exact hK8))));refine zAo rfl ?_;(intro K8 hK8;(repeat (first | go_skip | go_guarded | go_step));(apply zEb (G:=K8 _ _));(focus (exact st_ hO));clear hO;intro w9 hO;(try dsimp only [List.set] at hO);(replace hf:=fa_ hO);refine hK8 _ _ (hO.cut sb_) ?_;clear hK8 K8);refine zBV ?_;exact key _ _ _ _ (hO.cut sb_)
def stT (s p m:Nat) (h:Hd) (R:List Rw) (u:Nat) (d:Dk) (q b:Nat):List Rs:=
 [Var s (stC p h.ep h.si h.sz h.fi q b) 233,Var q [.pointer (some ⟨p,0,none⟩),.int .i64 ((50:Nat):Int),.int .i64 (m:Int),.int .i64 (h.fi:Int),.int .i64 (u:Int)] 295,StM b R,zAC p d]
theorem StUp.facts {m:Nat} {d:Dk} {h:Hd} {R0:List Rw} {W:List (List Ch)} {u:Nat} (U:StUp (m+50) d h R0 W u):4≤m∧m≤150∧u≤m∧h.si≤1∧h.sz≤2304∧h.fi≤1000000∧(h.ep+1≤5000→h.fi+m≤1000000)∧1≤h.fi∧h.ep≤5000:=by
 have k1:=U.st.k1;have k2:=U.st.k2;have hu:=U.st.used;have s1:=U.st.s1;have f1:=U.st.f1;have f2:=U.st.f2;have e2:=U.st.e2;have hz:=U.st.sz;have:=U.st.rows.size;exact ⟨by omega,by omega,by omega,s1,by omega,by omega,fun _=>by omega,f1,e2⟩
theorem zLx (s b p q m u:Nat) (d:Dk) (h:Hd) (R0:List Rw) (W0:List (List Ch)) (U:StUp (m+50) d h R0 W0 u) (he:h.ep+1≤5000) :
 ∃(c:Nat) (d':Dk),((c=0∧StUp (m+50) d' (ckH (m+50) h (zAF R0 W0)) (zAF R0 W0) [] 0∧(d.fuse=-1→d'.fuse=-1))∨(c=10∧d.fuse≠-1∧DkFell (m+50) d'∧∀K:Int,StOn (m+50) (d'.restart K) (h.ep+1) (zAF R0 W0)))∧
  Does Tryz.prog 80 #[.pointer (some ⟨s,0,none⟩)] (stT s p m h (zAF R0 W0) u d q b++[.imm LibOk])
   (fun q':Nat=>(errV c,ckT s p m b (ckH (m+50) h (zAF R0 W0)) (zAF R0 W0) c d' q')):=by
 obtain ⟨g1,g2,g3,g4,g5,g6,g7,g8,g9⟩:=U.facts;have HC:=zQX s b p q m u d h (zAF R0 W0) U.st.now U.ok g1 g2 g3 he g4 g5 g6 (g7 he);rcases U.ck he with ⟨d',e,U',hf⟩ | ⟨hne,d',e,hd,hon⟩
 ·rw [e] at HC;exact ⟨0,d',.inl ⟨rfl,U',hf⟩,HC fun e' h'=>by
   have:d'=e':=by injection h'
   subst this;exact ⟨U'.calm.up,U'.st⟩⟩
 ·rw [e] at HC;exact ⟨10,d',.inr ⟨rfl,hne,hd,hon⟩,HC fun e' h'=>by injection h' with h1 h2;cases h1⟩
theorem zCR {P:Program} {S:Nat→Prop} {W w:World} {l l0:List Rs} {ops:Array Oper} {rest:List Oper} {a:Act} {Q:Exit→Act→World→Prop} {o:Oper} {b:Nat} {R:List Rw} {t kt e:TypeId} (hO:Own S W w l) (hp:Pick l (StM b R) l0) (hg:o.guard=none) (m:Operand)
 (hop:o.op=Op.call { callee:=Callee.builtin Builtin.len,args:=#[m],argTypes:=#[t] }) (ht:P.underlying t=some (.map kt e))
 (hm:a.eval m=.map (some b)) (h:wpList P ops Q rest (a.put o.dst (.int .i64 R.length)) w):wpList P ops Q (o::rest) a w:=by
 obtain ⟨⟨clock,L⟩,h8⟩:=(hO.pick hp).ofEx;replace h8:=h8.unpack;dsimp only at h8;simp only [List.cons_append,List.nil_append] at h8;have hok:=h8.factOf (r:=.pure (SesOk L clock R)) pk_;refine zNZ (b:=b) (E:=L.map SE.en) (clock:=clock) h8 pk_ hg m hop ht hm ?_;rw [List.length_map,show L.length=R.length from hok.len];exact h
theorem zLP (s b p q m u ep si sz fi:Nat) (d:Dk) (R:List Rw) (a:Option Addr) (n cap:Nat) (hn:12<n) (hn2:n≤100000) {φ:World→Prop} :
 Does Tryz.prog 71 #[.pointer (some ⟨s,0,none⟩),.slice a n cap] [Var s [.pointer (some ⟨p,0,none⟩),.int .i64 (ep:Int),.int .i64 (si:Int),.int .i64 (sz:Int),.int .i64 (fi:Int),.pointer (some ⟨q,0,none⟩),.map (some b)] 233,Var q [.pointer (some ⟨p,0,none⟩),.int .i64 ((50:Nat):Int),.int .i64 (m:Int),.int .i64 (fi:Int),.int .i64 (u:Int)] 295,StM b R,zAC p d,.imm φ] (fun _:Unit=>(errV 2,[Var s [.pointer (some ⟨p,0,none⟩),.int .i64 (ep:Int),.int .i64 (si:Int),.int .i64 (sz:Int),.int .i64 (fi:Int),.pointer (some ⟨q,0,none⟩),.map (some b)] 233,Var q [.pointer (some ⟨p,0,none⟩),.int .i64 ((50:Nat):Int),.int .i64 (m:Int),.int .i64 (fi:Int),.int .i64 (u:Int)] 295,StM b R,zAC p d,.imm φ])):=by
 rw [show errV 2=.iface 124 (.int .i64 2) from rfl];intro S W w L0 hO;simp only [CA] at hO;(replace hf:=fa_ hO);go_enter Tryz.func71,Tryz.ntmps71;go_wp2_with (refine sq_ ?_;clear hO hf;intro w9 hO hf);go_ret;refine ⟨(),rfl,?_⟩;dsimp only;(try simp only [CA]);exact hO.cut sb_
theorem zK6 (s b p q m u ep si sz fi:Nat) (d:Dk) (R:List Rw) (a:Option Addr) (n cap:Nat) (C:List Ch) (hn:n≤12) (hC:C.length=n) (hsz:∀c∈C,c.key.size≤300∧c.val.size≤1000) (N:Nat) (hN:zBW C=N) (hb:N≠0)
 {φ:World→Prop} (hφ:∀w,φ w→LibOk w∧ValsAt w a (chs C)) :
 Does Tryz.prog 71 #[.pointer (some ⟨s,0,none⟩),.slice a n cap] [Var s [.pointer (some ⟨p,0,none⟩),.int .i64 (ep:Int),.int .i64 (si:Int),.int .i64 (sz:Int),.int .i64 (fi:Int),.pointer (some ⟨q,0,none⟩),.map (some b)] 233,Var q [.pointer (some ⟨p,0,none⟩),.int .i64 ((50:Nat):Int),.int .i64 (m:Int),.int .i64 (fi:Int),.int .i64 (u:Int)] 295,StM b R,zAC p d,.imm φ] (fun _:Unit=>(errV N,[Var s [.pointer (some ⟨p,0,none⟩),.int .i64 (ep:Int),.int .i64 (si:Int),.int .i64 (sz:Int),.int .i64 (fi:Int),.pointer (some ⟨q,0,none⟩),.map (some b)] 233,Var q [.pointer (some ⟨p,0,none⟩),.int .i64 ((50:Nat):Int),.int .i64 (m:Int),.int .i64 (fi:Int),.int .i64 (u:Int)] 295,StM b R,zAC p d,.imm φ])):=by
 have HSZ:=Lib.hid hsz;have HN:=Lib.hid hN;clear hsz hN;intro S W w L0 hO;simp only [CA] at hO;(replace hf:=fa_ hO);go_enter Tryz.func71,Tryz.ntmps71;go_wp2_with (refine sq_ ?_;clear hO hf;intro w9 hO hf);have hO9:=hO;clear hO hf;go_loopw [17] (fun v wr=>∃(i:Nat),v=.int .i64 i∧i≤n∧Hid (zBW (C.drop i)=N)∧Own S W wr ([Var s [.pointer (some ⟨p,0,none⟩),.int .i64 (ep:Int),.int .i64 (si:Int),.int .i64 (sz:Int),.int .i64 (fi:Int),.pointer (some ⟨q,0,none⟩),.map (some b)] 233,Var q [.pointer (some ⟨p,0,none⟩),.int .i64 ((50:Nat):Int),.int .i64 (m:Int),.int .i64 (fi:Int),.int .i64 (u:Int)] 295,StM b R,zAC p d,.imm φ]++L0)) (fun v _=>n-(intOf v).toNat)
 case atStart=>exact ⟨0,rfl,by omega,HN,(by (try simp only [CA]);exact hO9.cut sb_)⟩
 case round=>
  clear hO9;obtain ⟨i,rfl,hi,HI,hO⟩:=hrel;rename World=>w1
  simp only [List.cons_append,List.nil_append] at hO;(replace hf:=fa_ hO);by_cases hlt:i<n
  ·have hi2:i<C.length:=by omega
   obtain ⟨b1,off,rfl⟩:=ChAt.some (a:=a) ((hφ _ (Own.immOf (φ:=φ) hO pk_)).2) (by omega);obtain ⟨c0,c1,c2⟩:=ChAt.at (w:=w1) (l:=C) (b:=b1) (off:=off) ((hφ _ (Own.immOf (φ:=φ) hO pk_)).2) hi2;obtain ⟨hks,hvs⟩:=HSZ.out _ (List.getElem_mem hi2);have hI:=HI.out;rw [List.drop_eq_getElem_cons hi2,zBW] at hI;clear HI;generalize C[i]=c at *;have HB:=fun w h=>zAu c w h hks hvs
   by_cases h0:chN c=0
   ·rw [if_pos h0] at hI;have HI:=Lib.hid hI;rw [h0,show errV 0=.nilIface from rfl] at HB;unfold Ch.v at HB;clear hI h0;go_wp2_with (first|(go_at_call 149;(with_reducible apply Calls.mono (HB _ (hφ _ (Own.immOf (φ:=φ) hO pk_)).1);refine cu_ ?_;clear hO;(try clear hf);intro w8 hO hf))|(refine sq_ ?_;clear hO;(try clear hf);intro w9 hO hf));refine ⟨⟨i+1,by go_num,by omega,HI,?_⟩,by simp [intOf];omega⟩;(try simp only [CA]);exact hO.cut sb_
   ·rw [if_neg h0] at hI;rw [hI] at HB;obtain ⟨m,rfl⟩:∃m,N=m+1:=⟨N-1,by omega⟩
    rw [show errV (m+1)=.iface 124 (.int .i64 ((m+1:Nat):Int)) from rfl] at HB;unfold Ch.v at HB;clear hI h0;go_wp2_with (first|(go_at_call 149;(with_reducible apply Calls.mono (HB _ (hφ _ (Own.immOf (φ:=φ) hO pk_)).1);refine cu_ ?_;clear hO;(try clear hf);intro w8 hO hf))|(refine sq_ ?_;clear hO;(try clear hf);intro w9 hO hf));go_ret;refine ⟨(),rfl,?_⟩;dsimp only;(try simp only [CA]);exact hO.cut sb_
  ·have hI:=HI.out;rw [List.drop_of_length_le (by omega),zBW] at hI;omega
theorem zMO (s b p q m u ep si sz fi:Nat) (d:Dk) (R:List Rw) (a:Option Addr) (n cap:Nat) (C:List Ch) (hn:n≤12) (hC:C.length=n) (hok:∀c∈C,ChOk c) (hD:DkOk (m+50) 1000 d) (hm:m≤150) (hu:u≤m) {φ:World→Prop} (hφ:∀w,φ w→LibOk w∧ValsAt w a (chs C)) (hb:40<(C.foldl appR R).length∨m<n+1) :
 Does Tryz.prog 71 #[.pointer (some ⟨s,0,none⟩),.slice a n cap] [Var s [.pointer (some ⟨p,0,none⟩),.int .i64 (ep:Int),.int .i64 (si:Int),.int .i64 (sz:Int),.int .i64 (fi:Int),.pointer (some ⟨q,0,none⟩),.map (some b)] 233,Var q [.pointer (some ⟨p,0,none⟩),.int .i64 ((50:Nat):Int),.int .i64 (m:Int),.int .i64 (fi:Int),.int .i64 (u:Int)] 295,StM b R,zAC p d,.imm φ] (fun _:Unit=>(errV 8,[Var s [.pointer (some ⟨p,0,none⟩),.int .i64 (ep:Int),.int .i64 (si:Int),.int .i64 (sz:Int),.int .i64 (fi:Int),.pointer (some ⟨q,0,none⟩),.map (some b)] 233,Var q [.pointer (some ⟨p,0,none⟩),.int .i64 ((50:Nat):Int),.int .i64 (m:Int),.int .i64 (fi:Int),.int .i64 (u:Int)] 295,StM b R,zAC p d,.imm φ])):=by
 rw [show errV 8=.iface 124 (.int .i64 8) from rfl];have HOK:=Lib.hid hok;have HAP:=zCQ b R a n cap C hC (by omega);have HSC:=zBE p d;rw [hD.now,show ((m+50:Nat):Int)=(m:Int)+50 from by omega] at HSC;have HR:=zCb p q 50 m fi u (by omega) (by omega);have HRL:=Lib.hid (rfl:(C.foldl appR R).length=(C.foldl appR R).length);generalize hR':C.foldl appR R=R' at *;clear HRL;have HR':=Lib.hid hR';clear hok hR';intro S W w L0 hO;simp only [CA] at hO;(replace hf:=fa_ hO);go_enter Tryz.func71,Tryz.ntmps71;go_wp2_with (refine sq_ ?_;clear hO hf;intro w9 hO hf);have hO9:=hO;clear hO hf;go_loopw [17] (fun v wr=>∃(i:Nat),v=.int .i64 i∧i≤n∧Own S W wr ([Var s [.pointer (some ⟨p,0,none⟩),.int .i64 (ep:Int),.int .i64 (si:Int),.int .i64 (sz:Int),.int .i64 (fi:Int),.pointer (some ⟨q,0,none⟩),.map (some b)] 233,Var q [.pointer (some ⟨p,0,none⟩),.int .i64 ((50:Nat):Int),.int .i64 (m:Int),.int .i64 (fi:Int),.int .i64 (u:Int)] 295,StM b R,zAC p d,.imm φ]++L0)) (fun v _=>n-(intOf v).toNat)
 case atStart=>exact ⟨0,rfl,by omega,(by (try simp only [CA]);exact hO9.cut sb_)⟩
 case round=>
  clear hO9;obtain ⟨i,rfl,hi,hO⟩:=hrel;rename World=>w1
  simp only [List.cons_append,List.nil_append] at hO;(replace hf:=fa_ hO);by_cases hlt:i<n
  ·have hi2:i<C.length:=by omega
   obtain ⟨b1,off,rfl⟩:=ChAt.some (a:=a) ((hφ _ (Own.immOf (φ:=φ) hO pk_)).2) (by omega);obtain ⟨c0,c1,c2⟩:=ChAt.at (w:=w1) (l:=C) (b:=b1) (off:=off) ((hφ _ (Own.immOf (φ:=φ) hO pk_)).2) hi2;have hcok:=HOK.out _ (List.getElem_mem hi2);generalize C[i]=c at *;have hks:=zBQ hcok.1;have hvs:=hcok.2.2;have HB:=fun w h=>zAu c w h (by omega) (by omega)
   rw [zCj hcok,show errV 0=.nilIface from rfl] at HB;unfold Ch.v at HB;go_wp2_with (first|(go_at_call 149;(with_reducible apply Calls.mono (HB _ (hφ _ (Own.immOf (φ:=φ) hO pk_)).1);refine cu_ ?_;clear hO;(try clear hf);intro w8 hO hf))|(refine sq_ ?_;clear hO;(try clear hf);intro w9 hO hf));refine ⟨⟨i+1,by go_num,by omega,?_⟩,by simp [intOf];omega⟩;(try simp only [CA]);exact hO.cut sb_
  ·replace hO:=((hO.pick (r:=.imm φ) pk_).again).imp (ψ:=fun w=>ValsAt w a (chs C)) fun w h=>(hφ w h).2
   (replace hf:=fa_ hO);by_cases h40:40<R'.length
   ·go_wp2_with (first|(go_at_call 150;(with_reducible refine Does.use hO (HAP) tk_ (du_ ?_);clear hO;(try clear hf);intro x9 w9 hO hf;rename Nat=>b2))|((with_reducible show wpList _ _ _ (Oper.mk _ (.call { callee:=.builtin .len,args:=#[.tmp 33],argTypes:=_ }) _ _ _ _::_) _ _);(refine zCR hO pk_ rfl (.tmp 33) rfl Tryz.underlying229 rfl ?_))|(refine sq_ ?_;clear hO;(try clear hf);intro w9 hO hf));go_ret;refine ⟨(),rfl,?_⟩;dsimp only;(try simp only [CA]);exact hO.cut sb_
   ·have hmn:m<n+1:=hb.resolve_left h40;go_wp2_with (first|(go_at_call 150;(with_reducible refine Does.use hO (HAP) tk_ (du_ ?_);clear hO;(try clear hf);intro x9 w9 hO hf;rename Nat=>b2))|((with_reducible show wpList _ _ _ (Oper.mk _ (.call { callee:=.builtin .len,args:=#[.tmp 33],argTypes:=_ }) _ _ _ _::_) _ _);(refine zCR hO pk_ rfl (.tmp 33) rfl Tryz.underlying229 rfl ?_))|(go_at_call 143;(with_reducible refine Reads.use hO (HSC) tk_ (ru_ ?_);clear hO;(try clear hf);intro w9 hO hf))|(refine sq_ ?_;clear hO;(try clear hf);intro w9 hO hf));go_ret;refine ⟨(),rfl,?_⟩;dsimp only;(try simp only [CA]);exact hO.cut sb_
theorem zNH (s b p q m u ep si sz fi:Nat) (d d':Dk) (R:List Rw) (a:Option Addr) (n cap:Nat) (C:List Ch) (hn:n≤12) (hC:C.length=n) (hok:∀c∈C,ChOk c) (hD:DkOk (m+50) 1000 d) (hm:m≤150) (hu:u≤m) {φ:World→Prop} (hφ:∀w,φ w→LibOk w∧ValsAt w a (chs C)) (hb:(C.foldl appR R).length≤40) (hroom:u+n+1≤m)
 (HA:Does Tryz.prog 152 #[.pointer (some ⟨q,0,none⟩),.slice a n cap] [Var q [.pointer (some ⟨p,0,none⟩),.int .i64 ((50:Nat):Int),.int .i64 (m:Int),.int .i64 (fi:Int),.int .i64 (u:Int)] 295,zAC p d,.imm φ] (fun _:Unit=>(errV 0,[Var q [.pointer (some ⟨p,0,none⟩),.int .i64 ((50:Nat):Int),.int .i64 (m:Int),.int .i64 (fi:Int),.int .i64 ((u+n+1:Nat):Int)] 295,zAC p d',.imm φ]))) :
 Does Tryz.prog 71 #[.pointer (some ⟨s,0,none⟩),.slice a n cap] [Var s [.pointer (some ⟨p,0,none⟩),.int .i64 (ep:Int),.int .i64 (si:Int),.int .i64 (sz:Int),.int .i64 (fi:Int),.pointer (some ⟨q,0,none⟩),.map (some b)] 233,Var q [.pointer (some ⟨p,0,none⟩),.int .i64 ((50:Nat):Int),.int .i64 (m:Int),.int .i64 (fi:Int),.int .i64 (u:Int)] 295,StM b R,zAC p d,.imm φ] (fun b':Nat=>(errV 0,[Var s [.pointer (some ⟨p,0,none⟩),.int .i64 (ep:Int),.int .i64 (si:Int),.int .i64 (sz:Int),.int .i64 (fi:Int),.pointer (some ⟨q,0,none⟩),.map (some b')] 233,Var q [.pointer (some ⟨p,0,none⟩),.int .i64 ((50:Nat):Int),.int .i64 (m:Int),.int .i64 (fi:Int),.int .i64 ((u+n+1:Nat):Int)] 295,StM b' (C.foldl appR R),zAC p d',.imm φ])):=by
 rw [show errV 0=.nilIface from rfl] at HA ⊢;have HOK:=Lib.hid hok;have HAP:=zCQ b R a n cap C hC (by omega);have HSC:=zBE p d;rw [hD.now,show ((m+50:Nat):Int)=(m:Int)+50 from by omega] at HSC;have HR:=zCb p q 50 m fi u (by omega) (by omega);have HRL:=Lib.hid (rfl:(C.foldl appR R).length=(C.foldl appR R).length);generalize hR':C.foldl appR R=R' at *;clear HRL;have HR':=Lib.hid hR';clear hok hR';intro S W w L0 hO;simp only [CA] at hO;(replace hf:=fa_ hO);go_enter Tryz.func71,Tryz.ntmps71;go_wp2_with (refine sq_ ?_;clear hO hf;intro w9 hO hf);have hO9:=hO;clear hO hf;go_loopw [17] (fun v wr=>∃(i:Nat),v=.int .i64 i∧i≤n∧Own S W wr ([Var s [.pointer (some ⟨p,0,none⟩),.int .i64 (ep:Int),.int .i64 (si:Int),.int .i64 (sz:Int),.int .i64 (fi:Int),.pointer (some ⟨q,0,none⟩),.map (some b)] 233,Var q [.pointer (some ⟨p,0,none⟩),.int .i64 ((50:Nat):Int),.int .i64 (m:Int),.int .i64 (fi:Int),.int .i64 (u:Int)] 295,StM b R,zAC p d,.imm φ]++L0)) (fun v _=>n-(intOf v).toNat)
 case atStart=>exact ⟨0,rfl,by omega,(by (try simp only [CA]);exact hO9.cut sb_)⟩
 case round=>
  clear hO9;obtain ⟨i,rfl,hi,hO⟩:=hrel;rename World=>w1
  simp only [List.cons_append,List.nil_append] at hO;(replace hf:=fa_ hO);by_cases hlt:i<n
  ·have hi2:i<C.length:=by omega
   obtain ⟨b1,off,rfl⟩:=ChAt.some (a:=a) ((hφ _ (Own.immOf (φ:=φ) hO pk_)).2) (by omega);obtain ⟨c0,c1,c2⟩:=ChAt.at (w:=w1) (l:=C) (b:=b1) (off:=off) ((hφ _ (Own.immOf (φ:=φ) hO pk_)).2) hi2;have hcok:=HOK.out _ (List.getElem_mem hi2);generalize C[i]=c at *;have hks:=zBQ hcok.1;have hvs:=hcok.2.2;have HB:=fun w h=>zAu c w h (by omega) (by omega)
   rw [zCj hcok,show errV 0=.nilIface from rfl] at HB;unfold Ch.v at HB;go_wp2_with (first|(go_at_call 149;(with_reducible apply Calls.mono (HB _ (hφ _ (Own.immOf (φ:=φ) hO pk_)).1);refine cu_ ?_;clear hO;(try clear hf);intro w8 hO hf))|(refine sq_ ?_;clear hO;(try clear hf);intro w9 hO hf));refine ⟨⟨i+1,by go_num,by omega,?_⟩,by simp [intOf];omega⟩;(try simp only [CA]);exact hO.cut sb_
  ·replace hO:=((hO.pick (r:=.imm φ) pk_).again).imp (ψ:=fun w=>ValsAt w a (chs C)) fun w h=>(hφ w h).2
   (replace hf:=fa_ hO);have hroom2:(u:Int)+n+1≤m:=by omega
   go_wp2_with (first|(go_at_call 150;(with_reducible refine Does.use hO (HAP) tk_ (du_ ?_);clear hO hf;intro x9 w9 hO hf;rename Nat=>b2))|((with_reducible show wpList _ _ _ (Oper.mk _ (.call { callee:=.builtin .len,args:=#[.tmp 33],argTypes:=_ }) _ _ _ _::_) _ _);(refine zCR hO pk_ rfl (.tmp 33) rfl Tryz.underlying229 rfl ?_))|(go_at_call 143;(with_reducible refine Reads.use hO (HSC) tk_ (ru_ ?_);clear hO hf;intro w9 hO hf))|(go_at_call 151;(with_reducible refine Reads.use hO (HR) tk_ (ru_ ?_);clear hO hf;intro w9 hO hf))|(go_at_call 152;(with_reducible refine Does.use hO (HA) tk_ (du_ ?_);clear hO hf;intro x9 w9 hO hf))|(refine sq_ ?_;clear hO hf;intro w9 hO hf));go_ret;refine ⟨b2,rfl,?_⟩;dsimp only;(try simp only [CA]);exact hO.cut sb_
theorem zKw (s b p q m u u' ep si sz fi:Nat) (d d':Dk) (R:List Rw) (a:Option Addr) (n cap:Nat) (C:List Ch) (hn:n≤12) (hC:C.length=n) (hok:∀c∈C,ChOk c) (hD:DkOk (m+50) 1000 d) (hm:m≤150) (hu:u≤m) {φ:World→Prop} (hφ:∀w,φ w→LibOk w∧ValsAt w a (chs C)) (hb:(C.foldl appR R).length≤40) (hroom:u+n+1≤m)
 (HA:Does Tryz.prog 152 #[.pointer (some ⟨q,0,none⟩),.slice a n cap] [Var q [.pointer (some ⟨p,0,none⟩),.int .i64 ((50:Nat):Int),.int .i64 (m:Int),.int .i64 (fi:Int),.int .i64 (u:Int)] 295,zAC p d,.imm φ] (fun _:Unit=>(errV 10,[Var q [.pointer (some ⟨p,0,none⟩),.int .i64 ((50:Nat):Int),.int .i64 (m:Int),.int .i64 (fi:Int),.int .i64 (u':Int)] 295,zAC p d',.imm φ]))) :
 Does Tryz.prog 71 #[.pointer (some ⟨s,0,none⟩),.slice a n cap] [Var s [.pointer (some ⟨p,0,none⟩),.int .i64 (ep:Int),.int .i64 (si:Int),.int .i64 (sz:Int),.int .i64 (fi:Int),.pointer (some ⟨q,0,none⟩),.map (some b)] 233,Var q [.pointer (some ⟨p,0,none⟩),.int .i64 ((50:Nat):Int),.int .i64 (m:Int),.int .i64 (fi:Int),.int .i64 (u:Int)] 295,StM b R,zAC p d,.imm φ] (fun _:Unit=>(errV 10,[zAC p d',.imm φ])):=by
 rw [show errV 10=.iface 124 (.int .i64 10) from rfl] at HA ⊢;have HOK:=Lib.hid hok;have HAP:=zCQ b R a n cap C hC (by omega);have HSC:=zBE p d;rw [hD.now,show ((m+50:Nat):Int)=(m:Int)+50 from by omega] at HSC;have HR:=zCb p q 50 m fi u (by omega) (by omega);have HRL:=Lib.hid (rfl:(C.foldl appR R).length=(C.foldl appR R).length);generalize hR':C.foldl appR R=R' at *;clear HRL;have HR':=Lib.hid hR';clear hok hR';intro S W w L0 hO;simp only [CA] at hO;(replace hf:=fa_ hO);go_enter Tryz.func71,Tryz.ntmps71;go_wp2_with (refine sq_ ?_;clear hO hf;intro w9 hO hf);have hO9:=hO;clear hO hf;go_loopw [17] (fun v wr=>∃(i:Nat),v=.int .i64 i∧i≤n∧Own S W wr ([Var s [.pointer (some ⟨p,0,none⟩),.int .i64 (ep:Int),.int .i64 (si:Int),.int .i64 (sz:Int),.int .i64 (fi:Int),.pointer (some ⟨q,0,none⟩),.map (some b)] 233,Var q [.pointer (some ⟨p,0,none⟩),.int .i64 ((50:Nat):Int),.int .i64 (m:Int),.int .i64 (fi:Int),.int .i64 (u:Int)] 295,StM b R,zAC p d,.imm φ]++L0)) (fun v _=>n-(intOf v).toNat)
 case atStart=>exact ⟨0,rfl,by omega,(by (try simp only [CA]);exact hO9.cut sb_)⟩
 case round=>
  clear hO9;obtain ⟨i,rfl,hi,hO⟩:=hrel;rename World=>w1
  simp only [List.cons_append,List.nil_append] at hO;(replace hf:=fa_ hO);by_cases hlt:i<n
  ·have hi2:i<C.length:=by omega
   obtain ⟨b1,off,rfl⟩:=ChAt.some (a:=a) ((hφ _ (Own.immOf (φ:=φ) hO pk_)).2) (by omega);obtain ⟨c0,c1,c2⟩:=ChAt.at (w:=w1) (l:=C) (b:=b1) (off:=off) ((hφ _ (Own.immOf (φ:=φ) hO pk_)).2) hi2;have hcok:=HOK.out _ (List.getElem_mem hi2);generalize C[i]=c at *;have hks:=zBQ hcok.1;have hvs:=hcok.2.2;have HB:=fun w h=>zAu c w h (by omega) (by omega)
   rw [zCj hcok,show errV 0=.nilIface from rfl] at HB;unfold Ch.v at HB;go_wp2_with (first|(go_at_call 149;(with_reducible apply Calls.mono (HB _ (hφ _ (Own.immOf (φ:=φ) hO pk_)).1);refine cu_ ?_;clear hO;(try clear hf);intro w8 hO hf))|(refine sq_ ?_;clear hO;(try clear hf);intro w9 hO hf));refine ⟨⟨i+1,by go_num,by omega,?_⟩,by simp [intOf];omega⟩;(try simp only [CA]);exact hO.cut sb_
  ·replace hO:=((hO.pick (r:=.imm φ) pk_).again).imp (ψ:=fun w=>ValsAt w a (chs C)) fun w h=>(hφ w h).2
   (replace hf:=fa_ hO);have hroom2:(u:Int)+n+1≤m:=by omega
   go_wp2_with (first|(go_at_call 150;(with_reducible refine Does.use hO (HAP) tk_ (du_ ?_);clear hO hf;intro x9 w9 hO hf;rename Nat=>b2))|((with_reducible show wpList _ _ _ (Oper.mk _ (.call { callee:=.builtin .len,args:=#[.tmp 33],argTypes:=_ }) _ _ _ _::_) _ _);(refine zCR hO pk_ rfl (.tmp 33) rfl Tryz.underlying229 rfl ?_))|(go_at_call 143;(with_reducible refine Reads.use hO (HSC) tk_ (ru_ ?_);clear hO hf;intro w9 hO hf))|(go_at_call 151;(with_reducible refine Reads.use hO (HR) tk_ (ru_ ?_);clear hO hf;intro w9 hO hf))|(go_at_call 152;(with_reducible refine Does.use hO (HA) tk_ (du_ ?_);clear hO hf;intro x9 w9 hO hf))|(refine sq_ ?_;clear hO hf;intro w9 hO hf));go_ret;refine ⟨(),rfl,?_⟩;dsimp only;(try simp only [CA]);exact hO.cut sb_
theorem zMv (s b p q m u ep si sz fi:Nat) (d d':Dk) (R:List Rw) (a:Option Addr) (n cap:Nat) (C:List Ch) (hn:n≤12) (hC:C.length=n) (hok:∀c∈C,ChOk c) (hD:DkOk (m+50) 1000 d) (hm:m≤150) (hu:u≤m) {φ:World→Prop} (hφ:∀w,φ w→LibOk w∧ValsAt w a (chs C)) (hb:(C.foldl appR R).length≤40) (hmn:n+1≤m) (hroom:m<u+n+1)
 (HCK:Does Tryz.prog 80 #[.pointer (some ⟨s,0,none⟩)] [Var s [.pointer (some ⟨p,0,none⟩),.int .i64 (ep:Int),.int .i64 (si:Int),.int .i64 (sz:Int),.int .i64 (fi:Int),.pointer (some ⟨q,0,none⟩),.map (some b)] 233,Var q [.pointer (some ⟨p,0,none⟩),.int .i64 ((50:Nat):Int),.int .i64 (m:Int),.int .i64 (fi:Int),.int .i64 (u:Int)] 295,StM b R,zAC p d,.imm LibOk] (fun _:Nat=>(errV 10,[zAC p d',.imm LibOk]))) :
 Does Tryz.prog 71 #[.pointer (some ⟨s,0,none⟩),.slice a n cap] [Var s [.pointer (some ⟨p,0,none⟩),.int .i64 (ep:Int),.int .i64 (si:Int),.int .i64 (sz:Int),.int .i64 (fi:Int),.pointer (some ⟨q,0,none⟩),.map (some b)] 233,Var q [.pointer (some ⟨p,0,none⟩),.int .i64 ((50:Nat):Int),.int .i64 (m:Int),.int .i64 (fi:Int),.int .i64 (u:Int)] 295,StM b R,zAC p d,.imm φ] (fun _:Unit=>(errV 10,[zAC p d',.imm φ])):=by
 rw [show errV 10=.iface 124 (.int .i64 10) from rfl] at HCK ⊢;have HOK:=Lib.hid hok;have HAP:=zCQ b R a n cap C hC (by omega);have HSC:=zBE p d;rw [hD.now,show ((m+50:Nat):Int)=(m:Int)+50 from by omega] at HSC;have HR:=zCb p q 50 m fi u (by omega) (by omega);have HRL:=Lib.hid (rfl:(C.foldl appR R).length=(C.foldl appR R).length);generalize hR':C.foldl appR R=R' at *;clear HRL;have HR':=Lib.hid hR';clear hok hR';intro S W w L0 hO;simp only [CA] at hO;(replace hf:=fa_ hO);go_enter Tryz.func71,Tryz.ntmps71;go_wp2_with (refine sq_ ?_;clear hO hf;intro w9 hO hf);have hO9:=hO;clear hO hf;go_loopw [17] (fun v wr=>∃(i:Nat),v=.int .i64 i∧i≤n∧Own S W wr ([Var s [.pointer (some ⟨p,0,none⟩),.int .i64 (ep:Int),.int .i64 (si:Int),.int .i64 (sz:Int),.int .i64 (fi:Int),.pointer (some ⟨q,0,none⟩),.map (some b)] 233,Var q [.pointer (some ⟨p,0,none⟩),.int .i64 ((50:Nat):Int),.int .i64 (m:Int),.int .i64 (fi:Int),.int .i64 (u:Int)] 295,StM b R,zAC p d,.imm φ]++L0)) (fun v _=>n-(intOf v).toNat)
 case atStart=>exact ⟨0,rfl,by omega,(by (try simp only [CA]);exact hO9.cut sb_)⟩
 case round=>
  clear hO9;obtain ⟨i,rfl,hi,hO⟩:=hrel;rename World=>w1
  simp only [List.cons_append,List.nil_append] at hO;(replace hf:=fa_ hO);by_cases hlt:i<n
  ·have hi2:i<C.length:=by omega
   obtain ⟨b1,off,rfl⟩:=ChAt.some (a:=a) ((hφ _ (Own.immOf (φ:=φ) hO pk_)).2) (by omega);obtain ⟨c0,c1,c2⟩:=ChAt.at (w:=w1) (l:=C) (b:=b1) (off:=off) ((hφ _ (Own.immOf (φ:=φ) hO pk_)).2) hi2;have hcok:=HOK.out _ (List.getElem_mem hi2);generalize C[i]=c at *;have hks:=zBQ hcok.1;have hvs:=hcok.2.2;have HB:=fun w h=>zAu c w h (by omega) (by omega)
   rw [zCj hcok,show errV 0=.nilIface from rfl] at HB;unfold Ch.v at HB;go_wp2_with (first|(go_at_call 149;(with_reducible apply Calls.mono (HB _ (hφ _ (Own.immOf (φ:=φ) hO pk_)).1);refine cu_ ?_;clear hO;(try clear hf);intro w8 hO hf))|(refine sq_ ?_;clear hO;(try clear hf);intro w9 hO hf));refine ⟨⟨i+1,by go_num,by omega,?_⟩,by simp [intOf];omega⟩;(try simp only [CA]);exact hO.cut sb_
  ·replace hO:=((hO.pick (r:=.imm φ) pk_).again).imp (ψ:=fun w=>ValsAt w a (chs C)) fun w h=>(hφ w h).2
   (replace hf:=fa_ hO);replace hO:=((hO.pick (r:=.imm φ) pk_).again).imp (ψ:=LibOk) fun w h=>(hφ w h).1
   have hroom2:(m:Int)<u+n+1:=by omega
   go_wp2_with (first|(go_at_call 150;(with_reducible refine Does.use hO (HAP) tk_ (du_ ?_);clear hO hf;intro x9 w9 hO hf;rename Nat=>b2))|((with_reducible show wpList _ _ _ (Oper.mk _ (.call { callee:=.builtin .len,args:=#[.tmp 33],argTypes:=_ }) _ _ _ _::_) _ _);(refine zCR hO pk_ rfl (.tmp 33) rfl Tryz.underlying229 rfl ?_))|(go_at_call 143;(with_reducible refine Reads.use hO (HSC) tk_ (ru_ ?_);clear hO hf;intro w9 hO hf))|(go_at_call 151;(with_reducible refine Reads.use hO (HR) tk_ (ru_ ?_);clear hO hf;intro w9 hO hf))|(go_at_call 80;(with_reducible refine Does.use hO (HCK) tk_ (du_ ?_);clear hO hf;intro x9 w9 hO hf))|(refine sq_ ?_;clear hO hf;intro w9 hO hf));go_ret;refine ⟨(),rfl,?_⟩;dsimp only;(try simp only [CA]);exact hO.cut sb_
theorem zNJ (s b p q m u ep si sz fi xep xsi xsz xfi:Nat) (d d1 d':Dk) (R:List Rw) (a:Option Addr) (n cap:Nat) (C:List Ch) (hn:n≤12) (hC:C.length=n) (hok:∀c∈C,ChOk c) (hD:DkOk (m+50) 1000 d) (hm:m≤150) (hu:u≤m) {φ:World→Prop} (hφ:∀w,φ w→LibOk w∧ValsAt w a (chs C)) (hb:(C.foldl appR R).length≤40) (hmn:n+1≤m) (hroom:m<u+n+1)
 (HCK:Does Tryz.prog 80 #[.pointer (some ⟨s,0,none⟩)] [Var s [.pointer (some ⟨p,0,none⟩),.int .i64 (ep:Int),.int .i64 (si:Int),.int .i64 (sz:Int),.int .i64 (fi:Int),.pointer (some ⟨q,0,none⟩),.map (some b)] 233,Var q [.pointer (some ⟨p,0,none⟩),.int .i64 ((50:Nat):Int),.int .i64 (m:Int),.int .i64 (fi:Int),.int .i64 (u:Int)] 295,StM b R,zAC p d,.imm LibOk] (fun q':Nat=>(errV 0,[Var s [.pointer (some ⟨p,0,none⟩),.int .i64 (xep:Int),.int .i64 (xsi:Int),.int .i64 (xsz:Int),.int .i64 (xfi:Int),.pointer (some ⟨q',0,none⟩),.map (some b)] 233,Var q' [.pointer (some ⟨p,0,none⟩),.int .i64 ((50:Nat):Int),.int .i64 (m:Int),.int .i64 (xfi:Int),.int .i64 ((0:Nat):Int)] 295,StM b R,zAC p d1,.imm LibOk])))
 (HA:∀q,Does Tryz.prog 152 #[.pointer (some ⟨q,0,none⟩),.slice a n cap] [Var q [.pointer (some ⟨p,0,none⟩),.int .i64 ((50:Nat):Int),.int .i64 (m:Int),.int .i64 (xfi:Int),.int .i64 ((0:Nat):Int)] 295,zAC p d1,.imm φ] (fun _:Unit=>(errV 0,[Var q [.pointer (some ⟨p,0,none⟩),.int .i64 ((50:Nat):Int),.int .i64 (m:Int),.int .i64 (xfi:Int),.int .i64 ((n+1:Nat):Int)] 295,zAC p d',.imm φ]))) :
 Does Tryz.prog 71 #[.pointer (some ⟨s,0,none⟩),.slice a n cap] [Var s [.pointer (some ⟨p,0,none⟩),.int .i64 (ep:Int),.int .i64 (si:Int),.int .i64 (sz:Int),.int .i64 (fi:Int),.pointer (some ⟨q,0,none⟩),.map (some b)] 233,Var q [.pointer (some ⟨p,0,none⟩),.int .i64 ((50:Nat):Int),.int .i64 (m:Int),.int .i64 (fi:Int),.int .i64 (u:Int)] 295,StM b R,zAC p d,.imm φ] (fun x:Nat×Nat=>(errV 0,[Var s [.pointer (some ⟨p,0,none⟩),.int .i64 (xep:Int),.int .i64 (xsi:Int),.int .i64 (xsz:Int),.int .i64 (xfi:Int),.pointer (some ⟨x.1,0,none⟩),.map (some x.2)] 233,Var x.1 [.pointer (some ⟨p,0,none⟩),.int .i64 ((50:Nat):Int),.int .i64 (m:Int),.int .i64 (xfi:Int),.int .i64 ((n+1:Nat):Int)] 295,StM x.2 (C.foldl appR R),zAC p d',.imm φ])):=by
 rw [show errV 0=.nilIface from rfl] at HCK HA ⊢;have HOK:=Lib.hid hok;have HAP:=zCQ b R a n cap C hC (by omega);have HSC:=zBE p d;rw [hD.now,show ((m+50:Nat):Int)=(m:Int)+50 from by omega] at HSC;have HR:=zCb p q 50 m fi u (by omega) (by omega);have HRL:=Lib.hid (rfl:(C.foldl appR R).length=(C.foldl appR R).length);generalize hR':C.foldl appR R=R' at *;clear HRL;have HR':=Lib.hid hR';clear hok hR';intro S W w L0 hO;simp only [CA] at hO;(replace hf:=fa_ hO);go_enter Tryz.func71,Tryz.ntmps71;go_wp2_with (refine sq_ ?_;clear hO hf;intro w9 hO hf);have hO9:=hO;clear hO hf;go_loopw [17] (fun v wr=>∃(i:Nat),v=.int .i64 i∧i≤n∧Own S W wr ([Var s [.pointer (some ⟨p,0,none⟩),.int .i64 (ep:Int),.int .i64 (si:Int),.int .i64 (sz:Int),.int .i64 (fi:Int),.pointer (some ⟨q,0,none⟩),.map (some b)] 233,Var q [.pointer (some ⟨p,0,none⟩),.int .i64 ((50:Nat):Int),.int .i64 (m:Int),.int .i64 (fi:Int),.int .i64 (u:Int)] 295,StM b R,zAC p d,.imm φ]++L0)) (fun v _=>n-(intOf v).toNat)
 case atStart=>exact ⟨0,rfl,by omega,(by (try simp only [CA]);exact hO9.cut sb_)⟩
 case round=>
  clear hO9;obtain ⟨i,rfl,hi,hO⟩:=hrel;rename World=>w1
  simp only [List.cons_append,List.nil_append] at hO;(replace hf:=fa_ hO);by_cases hlt:i<n
  ·have hi2:i<C.length:=by omega
   obtain ⟨b1,off,rfl⟩:=ChAt.some (a:=a) ((hφ _ (Own.immOf (φ:=φ) hO pk_)).2) (by omega);obtain ⟨c0,c1,c2⟩:=ChAt.at (w:=w1) (l:=C) (b:=b1) (off:=off) ((hφ _ (Own.immOf (φ:=φ) hO pk_)).2) hi2;have hcok:=HOK.out _ (List.getElem_mem hi2);generalize C[i]=c at *;have hks:=zBQ hcok.1;have hvs:=hcok.2.2;have HB:=fun w h=>zAu c w h (by omega) (by omega)
   rw [zCj hcok,show errV 0=.nilIface from rfl] at HB;unfold Ch.v at HB;go_wp2_with (first|(go_at_call 149;(with_reducible apply Calls.mono (HB _ (hφ _ (Own.immOf (φ:=φ) hO pk_)).1);refine cu_ ?_;clear hO;(try clear hf);intro w8 hO hf))|(refine sq_ ?_;clear hO;(try clear hf);intro w9 hO hf));refine ⟨⟨i+1,by go_num,by omega,?_⟩,by simp [intOf];omega⟩;(try simp only [CA]);exact hO.cut sb_
  ·replace hO:=((hO.pick (r:=.imm φ) pk_).again).imp (ψ:=fun w=>ValsAt w a (chs C)) fun w h=>(hφ w h).2
   (replace hf:=fa_ hO);replace hO:=((hO.pick (r:=.imm φ) pk_).again).imp (ψ:=LibOk) fun w h=>(hφ w h).1
   have hroom2:(m:Int)<u+n+1:=by omega
   go_wp2_with (first|(go_at_call 150;(with_reducible refine Does.use hO (HAP) tk_ (du_ ?_);clear hO hf;intro x9 w9 hO hf;rename Nat=>b2))|((with_reducible show wpList _ _ _ (Oper.mk _ (.call { callee:=.builtin .len,args:=#[.tmp 33],argTypes:=_ }) _ _ _ _::_) _ _);(refine zCR hO pk_ rfl (.tmp 33) rfl Tryz.underlying229 rfl ?_))|(go_at_call 143;(with_reducible refine Reads.use hO (HSC) tk_ (ru_ ?_);clear hO hf;intro w9 hO hf))|(go_at_call 151;(with_reducible refine Reads.use hO (HR) tk_ (ru_ ?_);clear hO hf;intro w9 hO hf))|(go_at_call 80;(with_reducible refine Does.use hO (HCK) tk_ (du_ ?_);clear hO hf;intro x9 w9 hO hf;rename Nat=>q2))|(go_at_call 152;(with_reducible refine Does.use hO (HA _) tk_ (du_ ?_);clear hO hf;intro x9 w9 hO hf))|(refine sq_ ?_;clear hO hf;intro w9 hO hf));go_ret;refine ⟨(q2,b2),rfl,?_⟩;dsimp only;(try simp only [CA]);exact hO.cut sb_
theorem zNi (s b p q m u u' ep si sz fi xep xsi xsz xfi:Nat) (d d1 d':Dk) (R:List Rw) (a:Option Addr) (n cap:Nat) (C:List Ch) (hn:n≤12) (hC:C.length=n) (hok:∀c∈C,ChOk c) (hD:DkOk (m+50) 1000 d) (hm:m≤150) (hu:u≤m) {φ:World→Prop} (hφ:∀w,φ w→LibOk w∧ValsAt w a (chs C)) (hb:(C.foldl appR R).length≤40) (hmn:n+1≤m) (hroom:m<u+n+1)
 (HCK:Does Tryz.prog 80 #[.pointer (some ⟨s,0,none⟩)] [Var s [.pointer (some ⟨p,0,none⟩),.int .i64 (ep:Int),.int .i64 (si:Int),.int .i64 (sz:Int),.int .i64 (fi:Int),.pointer (some ⟨q,0,none⟩),.map (some b)] 233,Var q [.pointer (some ⟨p,0,none⟩),.int .i64 ((50:Nat):Int),.int .i64 (m:Int),.int .i64 (fi:Int),.int .i64 (u:Int)] 295,StM b R,zAC p d,.imm LibOk] (fun q':Nat=>(errV 0,[Var s [.pointer (some ⟨p,0,none⟩),.int .i64 (xep:Int),.int .i64 (xsi:Int),.int .i64 (xsz:Int),.int .i64 (xfi:Int),.pointer (some ⟨q',0,none⟩),.map (some b)] 233,Var q' [.pointer (some ⟨p,0,none⟩),.int .i64 ((50:Nat):Int),.int .i64 (m:Int),.int .i64 (xfi:Int),.int .i64 ((0:Nat):Int)] 295,StM b R,zAC p d1,.imm LibOk])))
 (HA:∀q,Does Tryz.prog 152 #[.pointer (some ⟨q,0,none⟩),.slice a n cap] [Var q [.pointer (some ⟨p,0,none⟩),.int .i64 ((50:Nat):Int),.int .i64 (m:Int),.int .i64 (xfi:Int),.int .i64 ((0:Nat):Int)] 295,zAC p d1,.imm φ] (fun _:Unit=>(errV 10,[Var q [.pointer (some ⟨p,0,none⟩),.int .i64 ((50:Nat):Int),.int .i64 (m:Int),.int .i64 (xfi:Int),.int .i64 (u':Int)] 295,zAC p d',.imm φ]))) :
 Does Tryz.prog 71 #[.pointer (some ⟨s,0,none⟩),.slice a n cap] [Var s [.pointer (some ⟨p,0,none⟩),.int .i64 (ep:Int),.int .i64 (si:Int),.int .i64 (sz:Int),.int .i64 (fi:Int),.pointer (some ⟨q,0,none⟩),.map (some b)] 233,Var q [.pointer (some ⟨p,0,none⟩),.int .i64 ((50:Nat):Int),.int .i64 (m:Int),.int .i64 (fi:Int),.int .i64 (u:Int)] 295,StM b R,zAC p d,.imm φ] (fun _:Unit=>(errV 10,[zAC p d',.imm φ])):=by
 rw [show errV 0=.nilIface from rfl] at HCK;rw [show errV 10=.iface 124 (.int .i64 10) from rfl] at HA ⊢;have HOK:=Lib.hid hok;have HAP:=zCQ b R a n cap C hC (by omega);have HSC:=zBE p d;rw [hD.now,show ((m+50:Nat):Int)=(m:Int)+50 from by omega] at HSC;have HR:=zCb p q 50 m fi u (by omega) (by omega);have HRL:=Lib.hid (rfl:(C.foldl appR R).length=(C.foldl appR R).length);generalize hR':C.foldl appR R=R' at *;clear HRL;have HR':=Lib.hid hR';clear hok hR';intro S W w L0 hO;simp only [CA] at hO;(replace hf:=fa_ hO);go_enter Tryz.func71,Tryz.ntmps71;go_wp2_with (refine sq_ ?_;clear hO hf;intro w9 hO hf);have hO9:=hO;clear hO hf;go_loopw [17] (fun v wr=>∃(i:Nat),v=.int .i64 i∧i≤n∧Own S W wr ([Var s [.pointer (some ⟨p,0,none⟩),.int .i64 (ep:Int),.int .i64 (si:Int),.int .i64 (sz:Int),.int .i64 (fi:Int),.pointer (some ⟨q,0,none⟩),.map (some b)] 233,Var q [.pointer (some ⟨p,0,none⟩),.int .i64 ((50:Nat):Int),.int .i64 (m:Int),.int .i64 (fi:Int),.int .i64 (u:Int)] 295,StM b R,zAC p d,.imm φ]++L0)) (fun v _=>n-(intOf v).toNat)
 case atStart=>exact ⟨0,rfl,by omega,(by (try simp only [CA]);exact hO9.cut sb_)⟩
 case round=>
  clear hO9;obtain ⟨i,rfl,hi,hO⟩:=hrel;rename World=>w1
  simp only [List.cons_append,List.nil_append] at hO;(replace hf:=fa_ hO);by_cases hlt:i<n
  ·have hi2:i<C.length:=by omega
   obtain ⟨b1,off,rfl⟩:=ChAt.some (a:=a) ((hφ _ (Own.immOf (φ:=φ) hO pk_)).2) (by omega);obtain ⟨c0,c1,c2⟩:=ChAt.at (w:=w1) (l:=C) (b:=b1) (off:=off) ((hφ _ (Own.immOf (φ:=φ) hO pk_)).2) hi2;have hcok:=HOK.out _ (List.getElem_mem hi2);generalize C[i]=c at *;have hks:=zBQ hcok.1;have hvs:=hcok.2.2;have HB:=fun w h=>zAu c w h (by omega) (by omega)
   rw [zCj hcok,show errV 0=.nilIface from rfl] at HB;unfold Ch.v at HB;go_wp2_with (first|(go_at_call 149;(with_reducible apply Calls.mono (HB _ (hφ _ (Own.immOf (φ:=φ) hO pk_)).1);refine cu_ ?_;clear hO;(try clear hf);intro w8 hO hf))|(refine sq_ ?_;clear hO;(try clear hf);intro w9 hO hf));refine ⟨⟨i+1,by go_num,by omega,?_⟩,by simp [intOf];omega⟩;(try simp only [CA]);exact hO.cut sb_
  ·replace hO:=((hO.pick (r:=.imm φ) pk_).again).imp (ψ:=fun w=>ValsAt w a (chs C)) fun w h=>(hφ w h).2
   (replace hf:=fa_ hO);replace hO:=((hO.pick (r:=.imm φ) pk_).again).imp (ψ:=LibOk) fun w h=>(hφ w h).1
   have hroom2:(m:Int)<u+n+1:=by omega
   go_wp2_with (first|(go_at_call 150;(with_reducible refine Does.use hO (HAP) tk_ (du_ ?_);clear hO hf;intro x9 w9 hO hf;rename Nat=>b2))|((with_reducible show wpList _ _ _ (Oper.mk _ (.call { callee:=.builtin .len,args:=#[.tmp 33],argTypes:=_ }) _ _ _ _::_) _ _);(refine zCR hO pk_ rfl (.tmp 33) rfl Tryz.underlying229 rfl ?_))|(go_at_call 143;(with_reducible refine Reads.use hO (HSC) tk_ (ru_ ?_);clear hO hf;intro w9 hO hf))|(go_at_call 151;(with_reducible refine Reads.use hO (HR) tk_ (ru_ ?_);clear hO hf;intro w9 hO hf))|(go_at_call 80;(with_reducible refine Does.use hO (HCK) tk_ (du_ ?_);clear hO hf;intro x9 w9 hO hf;rename Nat=>q2))|(go_at_call 152;(with_reducible refine Does.use hO (HA _) tk_ (du_ ?_);clear hO hf;intro x9 w9 hO hf))|(refine sq_ ?_;clear hO hf;intro w9 hO hf));go_ret;refine ⟨(),rfl,?_⟩;dsimp only;(try simp only [CA]);exact hO.cut sb_
theorem Does.re {α β:Type} {P:Program} {f:FuncId} {args:Array Value} {L:List Rs} {R:α→Value×List Rs} {R':β→Value×List Rs} (h:Does P f args L R) (g:∀x,∃y,R' y=R x):Does P f args L R':=fun S W w L0 hO=>
 (h S W w L0 hO).mono fun e w' ⟨x,he,ho⟩=>by
  obtain ⟨y,hy⟩:=g x;exact ⟨y,by rw [hy];exact he,by rw [hy];exact ho⟩
theorem StOn.mono {k:Nat} {d:Dk} {n n':Nat} {R:List Rw} (h:StOn k d n R) (hn:n≤n'):StOn k d n' R:=by
 obtain ⟨h0,R0,W,u,h1,h2,h3,h4⟩:=h;exact ⟨h0,R0,W,u,h1,h2,by omega,h4⟩
theorem zGk (R:List Rw):zAF R []=R:=rfl
theorem zMg {R:List Rw} {C:List Ch} {m:Nat} (h:12<C.length):zAl R C m=2:=if_pos h
theorem zK1 {R:List Rw} {C:List Ch} {m:Nat} (h:¬12<C.length) (h2:zBW C≠0):zAl R C m=zBW C:=by unfold zAl;rw [if_neg h,if_pos h2]
theorem zL4 {R:List Rw} {C:List Ch} {m:Nat} (h:¬12<C.length) (h2:zBW C=0) (h3:40<(C.foldl appR R).length∨m<C.length+1):zAl R C m=8:=by
 unfold zAl;rw [if_neg h,if_neg (by omega)];split
 ·rfl
 ·rw [if_pos (by omega)]
theorem zIl {R:List Rw} {C:List Ch} {m:Nat} (h:¬12<C.length) (h2:zBW C=0) (h3:¬(40<(C.foldl appR R).length∨m<C.length+1)):zAl R C m=0:=by
 unfold zAl;rw [if_neg h,if_neg (by omega),if_neg (by omega),if_neg (by omega)]
theorem zNU (s b p q m u:Nat) (d:Dk) (h:Hd) (R0:List Rw) (W0:List (List Ch)) (U:StUp (m+50) d h R0 W0 u) (he:h.ep+1≤5000) (a:Option Addr) (n cap:Nat) (C:List Ch) (hC:C.length=n) (hn:n≤100000)
 (hsz:∀c∈C,c.key.size≤300∧c.val.size≤1000) {φ:World→Prop} (hφ:∀w,φ w→LibOk w∧ValsAt w a (chs C)) :
 ∃(c:Nat) (d':Dk) (h':Hd) (T:Nat×Nat→List Rs),
  ((c ≠ 0 ∧ c ≤ 8 ∧ c = zAl (zAF R0 W0) C m ∧ T = fun _ => stT s p m h (zAF R0 W0) u d q b ++ [.imm φ]) ∨
   (c=0∧zAl (zAF R0 W0) C m=0∧(∃R1 W1,StUp (m+50) d' h' R1 W1 (zEA u n m)∧zAF R1 W1=C.foldl appR (zAF R0 W0))∧h'.ep≤h.ep+1∧(d.fuse=-1→d'.fuse=-1)∧
    T=fun x=>stT s p m h' (C.foldl appR (zAF R0 W0)) (zEA u n m) d' x.1 x.2++[.imm φ])∨
   (c=10∧zAl (zAF R0 W0) C m=0∧d.fuse≠-1∧DkFell (m+50) d'∧(∀K:Int,StOn (m+50) (d'.restart K) (h.ep+1) (zAF R0 W0)∨StOn (m+50) (d'.restart K) (h.ep+1) (C.foldl appR (zAF R0 W0)))∧T=fun _=>[zAC p d',.imm φ]))∧
  Does Tryz.prog 71 #[.pointer (some ⟨s,0,none⟩),.slice a n cap] (stT s p m h (zAF R0 W0) u d q b++[.imm φ]) (fun x:Nat×Nat=>(errV c,T x)):=by
 obtain ⟨g1,g2,g3,g4,g5,g6,g7,g8,g9⟩:=U.facts;have hfi:=g7 he;have hk:m+50-50=m:=by omega
 by_cases h12:12<n
 ·exact ⟨2,d,h,_,.inl ⟨by omega,by omega,(zMg (by omega)).symm,rfl⟩,(zLP s b p q m u h.ep h.si h.sz h.fi d (zAF R0 W0) a n cap h12 hn).re fun x=>⟨(0,0),rfl⟩⟩
 ·by_cases hf:zBW C=0
  ·have hok:=zD4.1 hf;by_cases hfull:40<(C.foldl appR (zAF R0 W0)).length∨m<C.length+1
   ·exact ⟨8,d,h,_,.inl ⟨by omega,by omega,(zL4 (by omega) hf hfull).symm,rfl⟩,(zMO s b p q m u h.ep h.si h.sz h.fi d (zAF R0 W0) a n cap C (by omega) hC hok U.ok g2 g3 hφ (by rw [←hC];exact hfull)).re fun x=>⟨(0,0),rfl⟩⟩
   ·have hc0:=zIl (by omega) hf hfull;have h40:(C.foldl appR (zAF R0 W0)).length≤40:=by omega
    by_cases hroom:u+n+1≤m
    ·have hus:zEA u n m=u+C.length+1:=by unfold zEA;rw [if_neg (by omega),hC]
     have HA:=zL6 p q d (m+50) 1000 50 m h.fi u a n cap C U.ok (by omega) hC (by omega) hok (by omega) (by omega) (by omega) (by omega) hφ;have hA:=U.add hok (by rw [hk];omega) h40;rw [hk] at hA;rcases hA with ⟨d',e,U',hfu⟩ | ⟨hne,d',e,hd,hon⟩
     ·rw [e,show zEP (0,d').1 u n=u+n+1 from rfl] at HA;refine ⟨0,d',h,_,.inr (.inl ⟨rfl,hc0,⟨R0,W0++[C],by rw [hus];exact U',zEK ..⟩,by omega,hfu,rfl⟩),(zNH s b p q m u h.ep h.si h.sz h.fi d d' (zAF R0 W0) a n cap C (by omega) hC hok U.ok g2 g3 hφ h40 hroom HA).re fun x=>⟨(q,x),?_⟩⟩;rw [hus,hC];rfl
     ·rw [e] at HA;exact ⟨10,d',h,_,.inr (.inr ⟨rfl,hc0,hne,hd,fun K=>(hon K).imp (fun x=>x.mono (by omega)) fun x=>x.mono (by omega),rfl⟩),(zKw s b p q m u _ h.ep h.si h.sz h.fi d d' (zAF R0 W0) a n cap C (by omega) hC hok U.ok g2 g3 hφ h40 hroom HA).re fun x=>⟨(0,0),rfl⟩⟩
    ·have hus:zEA u n m=0+C.length+1:=by unfold zEA;rw [if_pos (by omega),hC,Nat.zero_add]
     obtain ⟨c1,d1,hw,HCK⟩:=zLx s b p q m u d h R0 W0 U he;rcases hw with ⟨rfl,U1,hfu1⟩ | ⟨rfl,hne,hd,hon⟩
     ·have hfi2:(ckH (m+50) h (zAF R0 W0)).fi=h.fi+m:=by unfold ckH;dsimp only;rw [hk]
      have hep2:(ckH (m+50) h (zAF R0 W0)).ep=h.ep+1:=rfl;have HCK2:=fun q'=>(ckT s p m b (ckH (m+50) h (zAF R0 W0)) (zAF R0 W0) 0 d1 q')
      generalize ckH (m+50) h (zAF R0 W0)=H1 at *;have HA:=fun q=>zL6 p q d1 (m+50) 1000 50 m H1.fi 0 a n cap C U1.ok (by omega) hC (by omega) hok (by omega) (by omega) (by omega) (by omega) hφ
      have hA:=U1.add hok (by rw [hk];omega) h40;rw [hk,zGk] at hA;rcases hA with ⟨d',e,U',hfu⟩ | ⟨hne,d',e,hd,hon⟩
      ·rw [e,show zEP (0,d').1 0 n=n+1 from by show 0+n+1=n+1;omega] at HA;refine ⟨0,d',H1,_,.inr (.inl ⟨rfl,hc0,⟨zAF R0 W0,[]++[C],by rw [hus];exact U',zEK ..⟩,by omega,fun x=>hfu (hfu1 x),rfl⟩),(zNJ s b p q m u h.ep h.si h.sz h.fi H1.ep H1.si H1.sz H1.fi d d1 d' (zAF R0 W0) a n cap C (by omega) hC hok U.ok g2 g3 hφ h40 (by omega) (by omega) HCK HA).re fun x=>⟨x,?_⟩⟩;rw [hus,hC,Nat.zero_add];rfl
      ·rw [e] at HA;exact ⟨10,d',h,_,.inr (.inr ⟨rfl,hc0,fun x=>hne (hfu1 x),hd,fun K=>(hon K).imp (fun x=>x.mono (by omega)) fun x=>x.mono (by omega),rfl⟩),(zNi s b p q m u _ h.ep h.si h.sz h.fi H1.ep H1.si H1.sz H1.fi d d1 d' (zAF R0 W0) a n cap C (by omega) hC hok U.ok g2 g3 hφ h40 (by omega) (by omega) HCK HA).re fun x=>⟨(0,0),rfl⟩⟩
     ·exact ⟨10,d1,h,_,.inr (.inr ⟨rfl,hc0,hne,hd,fun K=>.inl (hon K),rfl⟩),(zMv s b p q m u h.ep h.si h.sz h.fi d d1 (zAF R0 W0) a n cap C (by omega) hC hok U.ok g2 g3 hφ h40 (by omega) (by omega) HCK).re fun x=>⟨(0,0),rfl⟩⟩
  ·have hle:=zKl C;exact ⟨zBW C,d,h,_,.inl ⟨hf,by omega,(zK1 (by omega) hf).symm,rfl⟩,(zK6 s b p q m u h.ep h.si h.sz h.fi d (zAF R0 W0) a n cap C (by omega) hC hsz _ rfl hf hφ).re fun x=>⟨(0,0),rfl⟩⟩
def newD (k:Nat):Dk:=⟨newB k,newB k,[],-1,false⟩
def newH:Hd:=⟨1,0,0,1⟩
theorem StUp.new {k:Nat} (k1:54≤k) (k2:k≤200):StUp k (newD k) newH [] [] 0:=by
 obtain ⟨h1,h2⟩:=StB.new k1 k2;exact ⟨h1,⟨rfl,rfl,rfl⟩,⟨h1.len,h1.len,by show (-1:Int)≤-1;omega,by show (-1:Int)≤_;omega,Nat.zero_le _,fun t ht=>(List.not_mem_nil ht).elim⟩,.inl h2⟩
theorem zRy (p m:Nat) (d:Dk) (h:Hd) (R0:List Rw) (W0:List (List Ch)) (u:Nat) (U:StUp (m+50) d h R0 W0 u) :
 Does Tryz.prog 81 #[.pointer (some ⟨p,0,none⟩)] [zAC p d,.imm LibOk]
  (fun x:Nat×Nat×Nat=>(.tuple #[.pointer (some ⟨x.1,0,none⟩),.nilIface],stT x.1 p m h (zAF R0 W0) u d x.2.1 x.2.2++[.imm LibOk])):=zPB p m d h R0 W0 u U.calm.up U.st
theorem zGB:([cAx].foldl appR []).length=1:=rfl
