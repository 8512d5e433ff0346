/- Texts En3, En4, En5, En6, Works, Now, Play, TopE of this claim, laid together. -/
import Derived.Test.YtagcmjmcjpjihaaGreatDoorHC36
import Derived.Test.YtagcmjmcjpjihaaGreatDoorHC38
set_option linter.unusedVariables false
set_option linter.unusedSimpArgs false
set_option linter.unnecessarySimpa false
set_option maxHeartbeats 8000000
set_option maxRecDepth 100000
namespace Go.Proofs.YtagcmjmcjpjihaaGreatDoor
open Go.RowKit Go.Lib
theorem CV:(∀(c:Core) s,(c.vac s).nn=c.nn)∧(∀(c:Core) s,(c.vac s).V=vacV s c.V)∧(∀(c:Core) s,(c.vac s).st=c.st)∧(∀(c:Core) s,(c.vac s).h=c.h)∧(∀(c:Core) s,(c.vac s).u=c.u)∧(∀(c:Core) s n,(c.vac s).at n=c.at n)∧(∀(c:Core) s,(c.vac s).d=c.d):=⟨fun _ _=>rfl,fun _ _=>rfl,fun _ _=>rfl,fun _ _=>rfl,fun _ _=>rfl,fun _ _ _=>rfl,fun _ _=>rfl⟩
theorem zPq (e p m:Nat) (c:Core) (D:Nat→Option (Nat×Dv)) (hn:c.nn≤1000) (hV:∀e∈c.V,e.2.length≤100000) :
 Does Tryz.prog 26 #[.pointer (some ⟨e,0,none⟩)] [EngR e p m c D] (fun _:Unit=>(.tuple #[],[EngR e p m (c.vac (zA5 c.nn D)) D])):=by
 intro S W w L0 hO;simp only [CA] at hO;(obtain ⟨⟨sa,va,ha,qa,ba⟩,hO⟩:=hO.ofEx;replace hO:=hO.unpack;dsimp only at hO;simp only [CA] at hO);have HS:=zI2 e va c.nn c.V (.pointer (some ⟨sa,0,none⟩)) (.pointer (some ⟨ha,0,none⟩)) (D 0) (D 1) (D 2) (D 3) hn;have HV:=zQo va c.nn c.V ((zA5 c.nn D:Nat):Int) hV;rw [show zAP (zAP (zAP (zAP c.nn (D 0)) (D 1)) (D 2)) (D 3)=zA5 c.nn D from rfl] at HS;(replace hf:=fa_ hO);go_enter Tryz.func26,Tryz.ntmps26;(refine zAW (fun w8=>Own _ _ w8 (Var e [.pointer (some ⟨sa,0,none⟩),.pointer (some ⟨va,0,none⟩),.pointer (some ⟨ha,0,none⟩),ptrO (D 0),ptrO (D 1),ptrO (D 2),ptrO (D 3)] 131::L0)) (fun _ _ h hx=>h.ext hx) (hO.cut sb_) ((0,0)::(0,1)::(0,2)::(2,3)::(0,4)::(5,5)::(5,6)::[]) (by kernel_rfl) (by kernel_rfl) rfl (fun _ _ d _ _ h=>by cases d<;>exact h) ?_;intro w9 hx9;replace hO:=hO.ext hx9;clear hx9;(replace hf:=fa_ hO);(refine si_ ?_));(refine zAE rfl ?_;intro K8 hK8;(repeat (first | go_skip | go_guarded | go_step));(go_at_call 75;(with_reducible refine Does.use hO (HS) tk_ (du_ ?_);clear hO hf;intro x9 w9 hO hf));(repeat go_step);refine hK8 _ _ (hO.cut sb_) ?_;clear hK8 K8);(refine zAE rfl ?_;intro K8 hK8;(repeat (first | go_skip | go_guarded | go_step));(go_at_call 78;(with_reducible refine Does.use hO (HV) tk_ (du_ ?_);clear hO hf;intro x9 w9 hO hf));(repeat go_step);refine hK8 _ _ (hO.cut sb_) ?_;clear hK8 K8);refine zAA ?_;go_wp2_with (refine sq_ ?_;clear hO hf;intro w9 hO hf);go_end0;refine ⟨(),rfl,?_⟩
 ((try simp only [CA]);refine Own.toEx (sa,va,ha,qa,ba) (Own.pack ?_);dsimp only;simp only [CV];exact hO.give tk_ kp_)
theorem zSZ {w:World} {a:Option Addr} {l:List Sp} (h:ValsAt w a (l.flatMap spC)):SpansAt w a l:=by
 cases l with
 | nil=>exact .inl rfl
 | cons s l=>
  obtain ⟨b,off,rfl⟩:=zG8 (i:=0) h (by simp);exact .inr ⟨b,off,rfl,fun i hi=>zFu h hi⟩
def comT (e p m k:Nat) (c:Core) (D:Nat→Option (Nat×Dv)):List Rs:=if k=10 then [zAC p c.d,.imm LibOk] else [EngR e p m c D,zAC p c.d,.imm LibOk]
theorem CC (c:Core) (C:List Ch) (d:Dk) (h:Hd) (R0:List Rw) (W0:List (List Ch)) (u s:Nat):(c.com C d h R0 W0 u s).nn=c.nn+1∧(c.com C d h R0 W0 u s).V=zBF c.nn C c.V∧(c.com C d h R0 W0 u s).h=h∧(c.com C d h R0 W0 u s).u=u∧(c.com C d h R0 W0 u s).d=d:=⟨rfl,rfl,rfl,rfl,rfl⟩
theorem CoreOk.comAt {m B:Nat} {c:Core} (H:CoreOk m B c) (C:List Ch) (d:Dk) (h:Hd) (R0:List Rw) (W0:List (List Ch)) (u s:Nat):(c.com C d h R0 W0 u s).at (c.nn+1)=C.foldl appR (c.at c.nn):=by
 have hl:=H.ps.len;unfold Core.at;show ((c.past++[C.foldl appR (c.at c.nn)])[c.nn+1]?).getD []=_;rw [List.getElem?_append_right (by omega),hl,Nat.sub_self];rfl
theorem zEi {e p m k:Nat} {c:Core} {D:Nat→Option (Nat×Dv)} (h:k≠10):comT e p m k c D=[EngR e p m c D,zAC p c.d,.imm LibOk]:=if_neg h
theorem zLj {e p m:Nat} {c:Core} {D:Nat→Option (Nat×Dv)}:comT e p m 10 c D=[zAC p c.d,.imm LibOk]:=if_pos rfl
theorem zLb (e p m B:Nat) (c:Core) (D:Nat→Option (Nat×Dv)) (H:CoreOk m B c) (hB:B+1≤1000) (i:Nat) (hi:i<4) (x:Nat×Dv) (hD:D i=some x) (hx:DeedOk c x.2) :
 Does Tryz.prog 22 #[.pointer (some ⟨e,0,none⟩),.int .i64 (i:Int)] [EngR e p m c D,zAC p c.d,.imm LibOk]
  (fun y:ComX m B c D i x.2=>(.tuple #[.int .i64 (y.n:Int),errV y.k],comT e p m y.k y.c' y.D')):=by
 have HDE:=zCZ e p m c D i hi x hD;have HCH:=fun va=>zF2 x.1 va x.2.since x.2.C x.2.R (by have:=hx.q.c12;omega)
 have HRD:=fun va=>zNW x.1 va x.2.since x.2.C x.2.R (by have:=hx.q.r40;omega)
 have HSI:=fun va=>zCs x.1 va x.2.since x.2.C x.2.R
 have HCL:∀ha ra rc,Does Tryz.prog 69 #[.pointer (some ⟨ha,0,none⟩),.slice ra x.2.R.length rc,.int .i64 (x.2.since:Int)] [zDr ha c.st,.imm fun w=>SpansAt w ra x.2.R] (fun _:Unit=>(.bool (zBY c.keys x.2.R x.2.since),[zDr ha c.st,.imm fun w=>SpansAt w ra x.2.R])):=fun ha ra rc=>by
  have h1:=zPN ha c.st ra rc x.2.R (x.2.since:Int) (by unfold Core.st;rw [zJ3];have:=H.nB;omega) (fun d hd=>by
   obtain ⟨n,_,_,rfl⟩:=zGF hd;cases hg:c.keys[n]? with
   | none=>exact Nat.zero_le _
   | some ks=>have:=H.k12 ks (List.mem_of_getElem? hg);show ks.length≤_;omega) (by have:=hx.q.r40;unfold maxLen;omega)
  rw [show zCE c.st x.2.R (x.2.since:Int)=zBY c.keys x.2.R x.2.since from zRs H.kl hx.k hx.le] at h1;exact h1
 have h12:=hx.q.c12;have hxl:=hx.le;have hDE:zBN x.2.C=0:=hx.q.deed;have hvl:∀e∈c.V,e.2.length≤100000:=zJb (by have:=H.vc;have:=H.b;omega);obtain ⟨s,hs⟩:∃s,Hid (s=zA5 (c.nn+1) (setF D i none)):=⟨_,Lib.hid rfl⟩
 have hsn:s≤c.nn+1:=by rw [hs.out];exact zJ5 _ _
 obtain ⟨n1,hn1⟩:∃n1,Hid (n1=c.nn+1):=⟨_,Lib.hid rfl⟩
 have HS:∀va V sa ha,Does Tryz.prog 75 #[.pointer (some ⟨e,0,none⟩)] [Var e [sa,.pointer (some ⟨va,0,none⟩),ha,ptrO (setF D i none 0),ptrO (setF D i none 1),ptrO (setF D i none 2),ptrO (setF D i none 3)] 131,VerR va n1 V,VwO va (setF D i none 0),VwO va (setF D i none 1),VwO va (setF D i none 2),VwO va (setF D i none 3)]
  (fun _:Unit=>(.int .i64 (s:Int),[Var e [sa,.pointer (some ⟨va,0,none⟩),ha,ptrO (setF D i none 0),ptrO (setF D i none 1),ptrO (setF D i none 2),ptrO (setF D i none 3)] 131,VerR va n1 V,VwO va (setF D i none 0),VwO va (setF D i none 1),VwO va (setF D i none 2),VwO va (setF D i none 3)])):=fun va V sa ha=>by
  rw [hs.out,hn1.out];exact zI2 e va (c.nn+1) V sa ha (setF D i none 0) (setF D i none 1) (setF D i none 2) (setF D i none 3) (by have:=H.nB;omega)
 have hst:c.st.length≤1000:=by unfold Core.st;rw [zJ3];have:=H.nB;omega
 have hnB:=H.nB;have hep:=H.ep;have HX:=Lib.hid hx;have HH:=Lib.hid H;clear hx H;rcases zCT hi with rfl | rfl | rfl | rfl
 all_goals
  intro S W w L0 hO;simp only [CA] at hO;(replace hf:=fa_ hO);go_enter Tryz.func22,Tryz.ntmps22;go_wp2_with (first|(go_at_call 30;(with_reducible refine Does.use hO (HDE) tk_ (du_ ?_);clear hO hf;intro x9 w9 hO hf;(obtain ⟨⟨sa,va,ha,qa,ba⟩,hO⟩:=hO.ofEx;replace hO:=hO.unpack;dsimp only at hO;rw [(congrArg (VwO va) hD:VwO va _=_)] at hO;simp only [VP] at hO;simp only [CA] at hO;(replace hf:=fa_ hO))))|(refine sq_ ?_;clear hO hf;intro w9 hO hf));all_goals try (exfalso;omega;done)
  specialize HCH va;specialize HRD va;specialize HSI va;specialize HCL ha;by_cases hC:x.2.C=[]
  ·have hC0:x.2.C.length=0:=by rw [hC];rfl
   go_wp2_with (first|(go_at_call 61;(with_reducible apply Does.use hO (HCH);exact tk_;refine du_ ?_;clear hO;(try clear hf);intro x9 w9 hO hf;(obtain ⟨ca,cc⟩:=x9;dsimp only at hO ⊢;(replace hf:=fa_ hO))))|(go_at_call 68;(with_reducible apply Reads.use hO (HSI);exact tk_;refine ru_ ?_;clear hO;(try clear hf);intro w9 hO hf))|(refine sq_ ?_;clear hO;(try clear hf);intro w9 hO hf));all_goals try (exfalso;omega;done)
   go_ret2;refine ⟨⟨x.2.since,0,c,_,.none hC⟩,rfl,?_⟩;replace hO:=hO.toPure trivial;dsimp only;rw [zEi (by omega)]
   ((try simp only [CA]);refine Own.toEx (sa,va,ha,qa,ba) (Own.pack ?_);dsimp only;(try simp only [SF,VP]);exact hO.give tk_ kp_)
  ·have hC1:1≤x.2.C.length:=List.length_pos_iff.2 hC;go_wp2_with (first|(go_at_call 61;(with_reducible apply Does.use hO (HCH);exact tk_;refine du_ ?_;clear hO;(try clear hf);intro x9 w9 hO hf;(obtain ⟨ca,cc⟩:=x9;dsimp only at hO ⊢;(replace hf:=fa_ hO))))|(refine sq_ ?_;clear hO;(try clear hf);intro w9 hO hf));all_goals try (exfalso;omega;done)
   (refine zAW (fun w8=>Own _ _ w8 (Var e [.pointer (some ⟨sa,0,none⟩),.pointer (some ⟨va,0,none⟩),.pointer (some ⟨ha,0,none⟩),ptrO (D 0),ptrO (D 1),ptrO (D 2),ptrO (D 3)] 131::L0)) (fun _ _ h hx=>h.ext hx) (hO.cut sb_) ((0,0)::(0,1)::(0,2)::(2,3)::(0,4)::(0,6)::(5,5)::(5,7)::(5,8)::(0,9)::[]) (by kernel_rfl) (by kernel_rfl) rfl (fun _ _ d _ _ h=>by cases d<;>exact h) ?_;intro w9 hx9;replace hO:=hO.ext hx9;clear hx9;(replace hf:=fa_ hO);(refine si_ ?_));(refine zAE rfl ?_;intro K8 hK8;(repeat (first | go_skip | go_guarded | go_step));(go_at_call 70;(with_reducible apply Does.use hO (HRD);exact tk_;refine du_ ?_;clear hO hf;intro x9 w9 hO hf;(obtain ⟨ra,rc⟩:=x9;dsimp only at hO ⊢;replace hO:=(hO.pick (r:=.imm (fun w=>ValsAt w ra (x.2.R.flatMap spC))) pk_).imp (ψ:=fun w=>SpansAt w ra x.2.R) (fun w h=>zSZ h);specialize HCL ra rc;(replace hf:=fa_ hO))));(repeat go_step);refine hK8 _ _ (hO.cut sb_) ?_;clear hK8 K8);(refine zAE rfl ?_;intro K8 hK8;(repeat (first | go_skip | go_guarded | go_step));(go_at_call 68;(with_reducible apply Reads.use hO (HSI);exact tk_;refine ru_ ?_;clear hO hf;intro w9 hO hf));(repeat go_step);refine hK8 _ _ (hO.cut sb_) ?_;clear hK8 K8);(refine zAE rfl ?_;intro K8 hK8;(repeat (first | go_skip | go_guarded | go_step));(go_at_call 69;(with_reducible apply Does.use hO (HCL);exact tk_;refine du_ ?_;clear hO hf;intro x9 w9 hO hf));(repeat go_step);refine hK8 _ _ (hO.cut sb_) ?_;clear hK8 K8);(refine si_ ?_);refine zAA ?_;cases hcl:zBY c.keys x.2.R x.2.since with
   | false=>
    go_wp2_with (refine sq_ ?_;clear hO;(try clear hf);intro w9 hO hf);all_goals try (exfalso;omega;done)
    go_ret2;refine ⟨⟨0,9,c,_,.late hC hcl⟩,rfl,?_⟩;replace hO:=hO.toPure trivial;dsimp only;rw [zEi (by omega)]
    ((try simp only [CA]);refine Own.toEx (sa,va,ha,qa,ba) (Own.pack ?_);dsimp only;(try simp only [SF,VP]);exact hO.give tk_ kp_)
   | true=>
    replace hO:=((hO.rowImm (a:=ca) (n:=x.2.C.length) (c:=cc) (xs:=chs x.2.C) pk_).again.imp (ψ:=fun w=>ChAt w ca x.2.C) fun w h=>h).take (rs:=[.imm LibOk,.imm (fun w=>ValsAt w ca (chs x.2.C))]) tk_;simp only [List.cons_append,List.nil_append] at hO;replace hO:=hO.and;have hsz:∀c∈x.2.C,c.key.size≤100∧c.val.size≤200:=fun y hy=>by
     have h1:=HX.out.q.good y hy;have h2:ChOk y:=zDy.1 h1;have:=h2.1.size_le;have:=h2.2.2;exact ⟨by omega,by omega⟩
    obtain ⟨k,d',h',T,hT,HSC⟩:=zNU sa ba p qa m c.u c.d c.h c.R0 c.W0 HH.out.up (by omega) ca x.2.C.length cc x.2.C rfl (by omega) (fun y hy=>by have:=hsz y hy;omega) (φ:=fun w=>LibOk w∧ValsAt w ca (chs x.2.C)) (fun _ h=>h);rw [←HH.out.now] at HSC hT;have HSZ:=Lib.hid hsz;clear hsz;rcases hT with ⟨k0,k8,kc,rfl⟩ | ⟨rfl,kc,⟨R1,W1,U',hr⟩,hep2,hfu,rfl⟩ | ⟨rfl,kc,hne,hdk,hon,rfl⟩
    all_goals
     unfold stT at HSC;dsimp only at HSC;simp only [CA] at HSC
    ·rw [show errV k=.iface 124 (.int .i64 k) from if_neg k0] at HSC;(replace hf:=fa_ hO);go_wp2_with (first|(go_at_call 71;(with_reducible apply Does.use hO (HSC);exact tk_;refine du_ ?_;clear hO hf;intro x9 w9 hO hf))|(refine sq_ ?_;clear hO hf;intro w9 hO hf));all_goals try (exfalso;omega;done)
     go_ret2;refine ⟨⟨0,k,c,D,(by rw [kc];exact .full hC hcl (by rw [←kc];exact k0) (by rw [←kc];exact k8))⟩,(by dsimp only;rw [show errV k=.iface 124 (.int .i64 k) from if_neg k0];rfl),?_⟩;replace hO:=(hO.pick (r:=.imm fun w=>LibOk w∧ValsAt w ca (chs x.2.C)) pk_).imp (ψ:=LibOk) fun _ h=>h.1
     replace hO:=hO.pick (r:=zAC p c.d) pk_;dsimp only;rw [zEi (by omega)];(try simp only [CA]);refine Own.toEx (sa,va,ha,qa,ba) (Own.pack ?_);dsimp only;rw [(congrArg (VwO va) hD:VwO va _=_)];simp only [VP];(try simp only [CA]);exact hO.cut sb_
    ·rw [show errV 0=.nilIface from rfl] at HSC;(replace hf:=fa_ hO);have HVC:=zMN va c.nn c.V ca x.2.C.length cc x.2.C rfl (by omega) HSZ.out (by omega) hvl (φ:=fun w=>LibOk w∧ValsAt w ca (chs x.2.C)) (fun _ h=>h);rw [(zJp (nn:=c.nn) (V:=c.V) hDE).1,(zJp (nn:=c.nn) (V:=c.V) hDE).2.1,hDE,show errV 0=.nilIface from rfl,←hn1.out] at HVC;have HNO:=zP3 ha c.st ((n1:Nat):Int) ca cc x.2.C (by omega) (by omega);have HFO:=zNX ha (c.st++[((n1:Int),zAm x.2.C)]) (s:Int) (by rw [List.length_append];simp;omega);have hhi:(c.st++[((n1:Int),zAm x.2.C)]).filter (fun y=>decide (y.1>(s:Int)))=(c.com x.2.C d' h' R1 W1 (zEA c.u x.2.C.length m) s).st:=by rw [hn1.out];exact HH.out.hist x.2.C d' h' R1 W1 (zEA c.u x.2.C.length m) s
     rw [hhi] at HFO;clear hhi;have hco:=HH.out.com (s:=s) HX.out.q U' hr hep2 hsn hB;have HCO:=Lib.hid hco;clear hco;specialize HS va (zBF c.nn x.2.C c.V) (.pointer (some ⟨sa,0,none⟩)) (.pointer (some ⟨ha,0,none⟩));simp only [SF,VP] at HS;go_wp2_with (first|(go_at_call 71;(with_reducible apply Does.use hO (HSC);exact tk_;refine du_ ?_;clear hO hf;intro x9 w9 hO hf;(obtain ⟨q3,b3⟩:=x9;dsimp only at hO ⊢;(replace hf:=fa_ hO))))|(go_at_call 72;(with_reducible apply Does.use hO (HVC);exact tk_;refine du_ ?_;clear hO hf;intro x9 w9 hO hf))|(go_at_call 73;(with_reducible apply Does.use hO (HNO);exact tk_;refine du_ ?_;clear hO hf;intro x9 w9 hO hf))|(refine sq_ ?_;clear hO hf;intro w9 hO hf));all_goals try (exfalso;omega;done)
     replace hO:=hO.toPure trivial;(replace hf:=fa_ hO);(refine zAW (fun w8=>Own _ _ w8 ((Var e _ 131)::L0)) (fun _ _ h hx=>h.ext hx) (hO.cut sb_) ((0,0)::(0,1)::(0,2)::(2,3)::(0,4)::(5,5)::(5,6)::[]) (by kernel_rfl) (by kernel_rfl) rfl (fun _ _ d _ _ h=>by cases d<;>exact h) ?_);intro w9 hx9;replace hO:=hO.ext hx9;clear hx9;(replace hf:=fa_ hO);(refine si_ ?_);(refine zAE rfl ?_;intro K8 hK8;(repeat (first | go_skip | go_guarded | go_step));(go_at_call 75;(with_reducible apply Does.use hO (HS);exact tk_;refine du_ ?_;clear hO hf;intro x9 w9 hO hf));(repeat go_step);refine hK8 _ _ (hO.cut sb_) ?_;clear hK8 K8);(refine zAE rfl ?_;intro K8 hK8;(repeat (first | go_skip | go_guarded | go_step));(go_at_call 74;(with_reducible apply Does.use hO (HFO);exact tk_;refine du_ ?_;clear hO hf;intro x9 w9 hO hf));(repeat go_step);refine hK8 _ _ (hO.cut sb_) ?_;clear hK8 K8);refine zAA ?_;go_wp2_with (refine sq_ ?_;clear hO hf;intro w9 hO hf);go_ret2;have e1:=hn1.out;subst e1;refine ⟨⟨c.nn+1,0,c.com x.2.C d' h' R1 W1 (zEA c.u x.2.C.length m) s,_,(by have h9:=HCO.out;rw [hs.out] at h9 ⊢;exact .done d' h' R1 W1 _ hC hcl kc h9 hfu rfl)⟩,rfl,?_⟩;replace hO:=(hO.pick (r:=.imm fun w=>LibOk w∧ValsAt w ca (chs x.2.C)) pk_).imp (ψ:=LibOk) fun _ h=>h.1
     replace hO:=hO.pick (r:=zAC p d') pk_;dsimp only;rw [zEi (by omega)];(try simp only [CA]);refine Own.toEx (sa,va,ha,q3,b3) (Own.pack ?_);dsimp only;simp only [SF,VP,CC,HH.out.comAt];(try simp only [CA]);exact hO.cut sb_
    ·rw [show errV 10=.iface 124 (.int .i64 10) from rfl] at HSC;(replace hf:=fa_ hO);go_wp2_with (first|(go_at_call 71;(with_reducible apply Does.use hO (HSC);exact tk_;refine du_ ?_;clear hO hf;intro x9 w9 hO hf))|(refine sq_ ?_;clear hO hf;intro w9 hO hf));all_goals try (exfalso;omega;done)
     go_ret2;refine ⟨⟨0,10,{ c with d:=d' },D,.down _ hC hcl kc hne hdk hon⟩,rfl,?_⟩;replace hO:=(hO.pick (r:=.imm fun w=>LibOk w∧ValsAt w ca (chs x.2.C)) pk_).imp (ψ:=LibOk) fun _ h=>h.1
     dsimp only;rw [zLj];(try simp only [CA]);exact hO.cut sb_
def VwX (v:Nat) (D:Nat→Option (Nat×Dv)) (i j:Nat):Rs:=if j=i then .pure True else VwO v (D j)
theorem VX:(∀v D,VwX v D 0 0=.pure True)∧(∀v D,VwX v D 0 1=VwO v (D 1))∧(∀v D,VwX v D 0 2=VwO v (D 2))∧(∀v D,VwX v D 0 3=VwO v (D 3))∧
 (∀v D,VwX v D 1 0=VwO v (D 0))∧(∀v D,VwX v D 1 1=.pure True)∧(∀v D,VwX v D 1 2=VwO v (D 2))∧(∀v D,VwX v D 1 3=VwO v (D 3))∧
 (∀v D,VwX v D 2 0=VwO v (D 0))∧(∀v D,VwX v D 2 1=VwO v (D 1))∧(∀v D,VwX v D 2 2=.pure True)∧(∀v D,VwX v D 2 3=VwO v (D 3))∧
 (∀v D,VwX v D 3 0=VwO v (D 0))∧(∀v D,VwX v D 3 1=VwO v (D 1))∧(∀v D,VwX v D 3 2=VwO v (D 2))∧(∀v D,VwX v D 3 3=.pure True):=
 ⟨fun _ _=>rfl,fun _ _=>rfl,fun _ _=>rfl,fun _ _=>rfl,fun _ _=>rfl,fun _ _=>rfl,fun _ _=>rfl,fun _ _=>rfl,fun _ _=>rfl,fun _ _=>rfl,fun _ _=>rfl,fun _ _=>rfl,fun _ _=>rfl,fun _ _=>rfl,fun _ _=>rfl,fun _ _=>rfl⟩
def EngX (e p m:Nat) (c:Core) (D:Nat→Option (Nat×Dv)) (v i:Nat):Rs:=.ex fun x:Nat×Nat×Nat×Nat=>.many
 [Var e [.pointer (some ⟨x.1, 0, none⟩), .pointer (some ⟨v, 0, none⟩), .pointer (some ⟨x.2.1, 0, none⟩), ptrO (D 0), ptrO (D 1), ptrO (D 2), ptrO (D 3)] 131,
  zDr x.2.1 c.st,VwX v D i 0,VwX v D i 1,VwX v D i 2,VwX v D i 3,
  Var x.1 (stC p c.h.ep c.h.si c.h.sz c.h.fi x.2.2.1 x.2.2.2) 233,
  Var x.2.2.1 [.pointer (some ⟨p,0,none⟩),.int .i64 ((50:Nat):Int),.int .i64 (m:Int),.int .i64 (c.h.fi:Int),.int .i64 (c.u:Int)] 295,StM x.2.2.2 (c.at c.nn)]
theorem zR9 {S:Nat→Prop} {W w:World} {L:List Rs} {e p m:Nat} {c:Core} {D:Nat→Option (Nat×Dv)} {i:Nat} (hi:i<4) {x:Nat×Dv} (hD:D i=some x) (h:Own S W w (EngR e p m c D::L)) :
 ∃v,Own S W w (EngX e p m c D v i::ViewR x.1 v x.2.since x.2.C x.2.R::VerR v c.nn c.V::L):=by
 obtain ⟨⟨sa,va,ha,qa,ba⟩,hO⟩:=h.ofEx;replace hO:=hO.unpack;dsimp only at hO;refine ⟨va,?_⟩;rcases zCT hi with rfl | rfl | rfl | rfl
 all_goals
  rw [(congrArg (VwO va) hD:VwO va _=_)] at hO;simp only [CA,VP] at hO;replace hO:=hO.toPure trivial;refine Own.toEx (sa,ha,qa,ba) (Own.pack ?_);dsimp only;simp only [VX,CA];exact hO.cut sb_
theorem zSC {S:Nat→Prop} {W w:World} {L:List Rs} {e p m:Nat} {c:Core} {D:Nat→Option (Nat×Dv)} {i:Nat} (hi:i<4) {x:Nat×Dv} (hD:D i=some x) {v:Nat} {C:List Ch} {R:List Sp}
 (h:Own S W w (EngX e p m c D v i::ViewR x.1 v x.2.since C R::VerR v c.nn c.V::L)):Own S W w (EngR e p m c (setF D i (some (x.1,⟨x.2.since,C,R⟩)))::L):=by
 obtain ⟨⟨sa,ha,qa,ba⟩,hO⟩:=h.ofEx;replace hO:=hO.unpack;dsimp only at hO;rcases zCT hi with rfl | rfl | rfl | rfl
 all_goals
  rw [(congrArg ptrO hD:ptrO _=_)] at hO;simp only [CA,VP,VX] at hO;refine Own.toEx (sa,v,ha,qa,ba) (Own.pack ?_);dsimp only;simp only [SF,VP,CA];exact hO.cut sb_
theorem zQc {D:Nat→Option (Nat×Dv)} {i:Nat} {x:Nat×Dv} (h:D i=some x):setF D i (some (x.1,⟨x.2.since,x.2.C,x.2.R⟩))=D:=by
 funext j
 unfold setF;split
 ·rename_i e;rw [e,h]
 ·rfl
theorem Own.rot {S:Nat→Prop} {W w:World} {a:Rs} {l m:List Rs} (h:Own S W w (a::(l++m))):Own S W w (l++a::m):=by
 obtain ⟨hc,M,Z,⟨M1,M2,h1,h2,s1,s2,d⟩,rest⟩:=h;obtain ⟨N1,N2,k1,k2,t1,t2,e⟩:=h2.append;exact ⟨hc,M,Z,Stars.join (M2:=fun b=>M1 b∨N2 b) k1 ⟨M1,N2,h1,k2,fun b h=>.inl h,fun b h=>.inr h,fun b h1 h2=>d b h1 (t2 b h2)⟩ (fun b h=>s2 b (t1 b h)) (fun b h=>h.elim (s1 b) fun h=>s2 b (t2 b h)) (fun b h h2=>h2.elim (fun h3=>d b h3 (t1 b h)) (e b h)),rest⟩
theorem Own.tor {S:Nat→Prop} {W w:World} {a:Rs} {l m:List Rs} (h:Own S W w (l++a::m)):Own S W w (a::(l++m)):=by
 obtain ⟨hc,M,Z,h1,rest⟩:=h;obtain ⟨N1,N2,k1,⟨M1,M2,h2,h3,s1,s2,d⟩,t1,t2,e⟩:=h1.append;exact ⟨hc,M,Z,⟨M1,fun b=>N1 b∨M2 b,h2,Stars.join k1 h3 (fun b h=>.inl h) (fun b h=>.inr h) (fun b h1 h2=>e b h1 (s2 b h2)),fun b h=>t2 b (s1 b h),fun b h=>h.elim (t1 b) fun h=>t2 b (s2 b h),fun b h1 h2=>h2.elim (fun h3=>e b h3 (s1 b h1)) (d b h1)⟩,rest⟩
theorem zG0 {P:Program} {f:Nat} {args:Array Value} {e p m:Nat} {c:Core} {D:Nat→Option (Nat×Dv)} {i:Nat} (hi:i<4) {x:Nat×Dv} (hD:D i=some x) {rs:List Rs} {α:Type} {val:α→Value} {C:α→List Ch} {R:α→List Sp} {out:α→List Rs}
 (h:∀v,Does P f args (ViewR x.1 v x.2.since x.2.C x.2.R::VerR v c.nn c.V::rs) (fun y=>(val y,ViewR x.1 v x.2.since (C y) (R y)::VerR v c.nn c.V::out y))) :
 Does P f args (EngR e p m c D::rs) (fun y=>(val y,EngR e p m c (setF D i (some (x.1,⟨x.2.since,C y,R y⟩)))::out y)):=by
 intro S W w L0 hO;obtain ⟨v,hO⟩:=zR9 hi hD hO;refine (h v S W w _ (Own.rot (l:=ViewR x.1 v x.2.since x.2.C x.2.R::VerR v c.nn c.V::rs) hO)).mono ?_;rintro e8 w8 ⟨y,he,h8⟩;exact ⟨y,he,zSC hi hD (Own.tor (l:=ViewR x.1 v x.2.since (C y) (R y)::VerR v c.nn c.V::out y) h8)⟩
theorem zLc {P:Program} {f:Nat} {args:Array Value} {e p m:Nat} {c:Core} {D:Nat→Option (Nat×Dv)} {i:Nat} (hi:i<4) {x:Nat×Dv} (hD:D i=some x) {rs:List Rs} {α:Type} {val:α→Value} {C:α→List Ch} {R:α→List Sp} {out:α→List Rs}
 (h:∀v,Does P f args (ViewR x.1 v x.2.since x.2.C x.2.R::rs) (fun y=>(val y,ViewR x.1 v x.2.since (C y) (R y)::out y))) :
 Does P f args (EngR e p m c D::rs) (fun y=>(val y,EngR e p m c (setF D i (some (x.1,⟨x.2.since,C y,R y⟩)))::out y)):=by
 refine zG0 hi hD fun v=>?_
 intro S W w L0 hO;refine (h v S W w (VerR v c.nn c.V::L0) ?_).mono ?_
 ·exact Own.rot (l:=ViewR x.1 v x.2.since x.2.C x.2.R::rs) (Own.tor (l:=[ViewR x.1 v x.2.since x.2.C x.2.R]) hO)
 rintro e8 w8 ⟨y,he,h8⟩;exact ⟨y,he,Own.rot (l:=[ViewR x.1 v x.2.since (C y) (R y)]) (Own.tor (l:=ViewR x.1 v x.2.since (C y) (R y)::out y) h8)⟩
structure CkX (m B:Nat) (c:Core) where
 k:Nat
 c':Core
 ok:(k=0∧SaveOk m B c c')∨(k=10∧c.d.fuse≠-1∧DkFell (m+50) c'.d∧∀K:Int,StOn (m+50) (c'.d.restart K) (c.h.ep+1) (c.at c.nn))
theorem zTx (s p m b:Nat) (H:Hd) (R:List Rw) (e:Dk) (q:Nat):ckT s p m b H R 0 e q=[Var s (stC p H.ep H.si H.sz H.fi q b) 233,Var q [.pointer (some ⟨p,0,none⟩),.int .i64 ((50:Nat):Int),.int .i64 (m:Int),.int .i64 (H.fi:Int),.int .i64 ((0:Nat):Int)] 295,StM b R,zAC p e,.imm LibOk]:=rfl
theorem zTb (s p m b:Nat) (H:Hd) (R:List Rw) (e:Dk) (q:Nat):ckT s p m b H R 10 e q=[zAC p e,.imm LibOk]:=rfl
theorem CK (c:Core) (d:Dk) (h:Hd) (R0:List Rw) (W0:List (List Ch)) (u:Nat):(c.ck d h R0 W0 u).nn=c.nn∧(c.ck d h R0 W0 u).V=c.V∧(c.ck d h R0 W0 u).h=h∧(c.ck d h R0 W0 u).u=u∧(c.ck d h R0 W0 u).d=d∧(c.ck d h R0 W0 u).st=c.st∧(∀n,(c.ck d h R0 W0 u).at n=c.at n):=⟨rfl,rfl,rfl,rfl,rfl,rfl,fun _=>rfl⟩
theorem zNh (e p m B:Nat) (c:Core) (D:Nat→Option (Nat×Dv)) (H:CoreOk m B c) (hB:B+1≤1000) :
 Does Tryz.prog 28 #[.pointer (some ⟨e,0,none⟩)] [EngR e p m c D,zAC p c.d,.imm LibOk] (fun y:CkX m B c=>(errV y.k,comT e p m y.k y.c' D)):=by
 intro S W w L0 hO;simp only [CA] at hO;(obtain ⟨⟨sa,va,ha,qa,ba⟩,hO⟩:=hO.ofEx;replace hO:=hO.unpack;dsimp only at hO;simp only [CA] at hO);have hep:=H.ep;obtain ⟨k,d',hw,HC⟩:=zLx sa ba p qa m c.u c.d c.h c.R0 c.W0 H.up (by omega);rw [←H.now] at HC;unfold stT at HC;simp only [CA] at HC;rcases hw with ⟨rfl,U',hf⟩ | ⟨rfl,hne,hdk,hon⟩
 ·have hck:=H.ck U' (by rw [zGk]) (by show c.h.ep+1≤c.h.ep+1;omega) hB;have hok:SaveOk m B c (c.ck d' (ckH (m+50) c.h (zAF c.R0 c.W0)) (zAF c.R0 c.W0) [] 0):=⟨_,_,_,_,_,rfl,hck,by rw [zGk],rfl,hf⟩
  rw [←H.now] at hok;clear hck hf U';have HOK:=Lib.hid hok;clear hok;generalize ckH (m+50) c.h (c.at c.nn)=h' at *;simp only [zTx] at HC;rw [show errV 0=.nilIface from rfl] at HC;(replace hf:=fa_ hO);go_enter Tryz.func28,Tryz.ntmps28;go_wp2_with (first|(go_at_call 80;(with_reducible apply Does.use hO (HC);exact tk_;refine du_ ?_;clear hO hf;intro x9 w9 hO hf;(rename Nat=>q9)))|(refine sq_ ?_;clear hO hf;intro w9 hO hf));go_ret;refine ⟨⟨0,_,.inl ⟨rfl,HOK.out⟩⟩,rfl,?_⟩;dsimp only;rw [zEi (by omega)];(try simp only [CA]);refine Own.toEx (sa,va,ha,q9,ba) (Own.pack ?_);dsimp only;simp only [CK,CA];exact hO.cut sb_
 ·rw [←H.now] at hon;simp only [zTb] at HC;rw [show errV 10=.iface 124 (.int .i64 10) from rfl] at HC;(replace hf:=fa_ hO);go_enter Tryz.func28,Tryz.ntmps28;go_wp2_with (first|(go_at_call 80;(with_reducible apply Does.use hO (HC);exact tk_;refine du_ ?_;clear hO hf;intro x9 w9 hO hf))|(refine sq_ ?_;clear hO hf;intro w9 hO hf));go_ret;refine ⟨⟨10,{ c with d:=d' },.inr ⟨rfl,hne,hdk,hon⟩⟩,rfl,?_⟩;dsimp only;rw [zLj];(try simp only [CA]);exact hO.cut sb_
theorem zQ7 (p m:Nat) (d:Dk) (h:Hd) (R0:List Rw) (W0:List (List Ch)) (u:Nat) (U:StUp (m+50) d h R0 W0 u) :
 Does Tryz.prog 29 #[.pointer (some ⟨p,0,none⟩)] [zAC p d,.imm LibOk]
  (fun e:Nat=>(.tuple #[.pointer (some ⟨e,0,none⟩),.nilIface],[EngR e p m (Core.new d h R0 W0 u) (fun _=>none),zAC p d,.imm LibOk])):=by
 have HOP:=zRy p m d h R0 W0 u U;have hs:=U.st.now;have hl:=hs.len;have HRW:=fun sa ba qa=>zFe sa ba (zAF R0 W0) (by omega) (.pointer (some ⟨p,0,none⟩)) (.int .i64 (h.ep:Int)) (.int .i64 (h.si:Int)) (.int .i64 (h.sz:Int)) (.int .i64 (h.fi:Int)) (.pointer (some ⟨qa,0,none⟩))
 have HVN:=fun a c=>zQa a (zAF R0 W0).length c (zAF R0 W0) rfl (by omega) hs.ups.keys
 have hat:(Core.new d h R0 W0 u).at 0=zAF R0 W0:=rfl;have hst:(Core.new d h R0 W0 u).st=[]:=rfl;have CN:(Core.new d h R0 W0 u).nn=0∧(Core.new d h R0 W0 u).V=newV (zAF R0 W0)∧(Core.new d h R0 W0 u).h=h∧(Core.new d h R0 W0 u).u=u:=⟨rfl,rfl,rfl,rfl⟩
 generalize zAF R0 W0=L at *;generalize newV L=V at *;unfold stT at HOP;dsimp only [stC] at HOP;intro S W w L0 hO;simp only [CA] at hO;(replace hf:=fa_ hO);go_enter Tryz.func29,Tryz.ntmps29;go_wp2_with (first|(go_at_call 81;(with_reducible refine Does.use hO (HOP) tk_ (du_ ?_);clear hO hf;intro x9 w9 hO hf;(obtain ⟨s,q,b⟩:=x9;dsimp only at hO ⊢;(replace hf:=fa_ hO))))|(go_at_call 83;(with_reducible refine Does.use hO (HRW _ _ _) tk_ (du_ ?_);clear hO hf;intro x9 w9 hO hf;(obtain ⟨xa,xc⟩:=x9;dsimp only at hO ⊢;replace hO:=hO.rowImm (a:=xa) (n:=L.length) (c:=xc) (xs:=L.flatMap rwC) pk_;(replace hf:=fa_ hO))))|(go_at_call 82;(with_reducible refine Does.use hO (HVN _ _) tk_ (du_ ?_);clear hO hf;intro x9 w9 hO hf;rename Nat=>v9))|(refine sq_ ?_;clear hO hf;intro w9 hO hf));go_ret2;obtain ⟨gh,hg9⟩:=(hO.pick (r:=Var _ [.slice none 0 0] 148) pk_).named;(try rw [←hg9]);rw [←hg9] at hO;clear hg9;replace hO:=(hO.pick (r:=Var gh [.slice none 0 0] 148) pk_).toHist;replace hO:=(((hO.toPure trivial).toPure trivial).toPure trivial).toPure trivial;refine ⟨_,rfl,?_⟩;(try simp only [CA]);refine Own.toEx (s,v9,gh,q,b) (Own.pack ?_);dsimp only [stC];simp only [CN,hst,hat,VP,CA];exact hO.cut sb_
theorem zCX (m:Nat) (h1:4≤m) (h2:m≤150) :
 Does Tryz.prog 17 #[.int .i64 ((m:Int)+50)] [.imm LibOk]
  (fun x:Nat×Nat=>(.tuple #[.pointer (some ⟨x.1,0,none⟩),.pointer (some ⟨x.2,0,none⟩),.bool true],[EngR x.2 x.1 m (Core.new (newD (m+50)) newH [] [] 0) (fun _=>none),zAC x.1 (newD (m+50)),.imm LibOk])):=by
 have HN:=zSO (m+50) (by omega) (by omega);rw [zTX,show ((m+50:Nat):Int)=(m:Int)+50 from by omega] at HN;have HF:=fun p=>zNa p (m+50) (by omega) (by omega)
 have HE:=fun p=>zQ7 p m (newD (m+50)) newH [] [] 0 (StUp.new (by omega) (by omega))
 generalize Core.new (newD (m+50)) newH [] [] 0=c at *;unfold newD at HE ⊢;generalize newB (m+50)=B at *;generalize (m:Int)+50=M at *;intro S W w L0 hO;simp only [CA] at hO;(replace hf:=fa_ hO);go_enter Tryz.func17,Tryz.ntmps17;go_wp2_with (first|(go_at_call 65;(with_reducible refine Does.use hO (HN) tk_ (du_ ?_);clear hO hf;intro x9 w9 hO hf;rename Nat=>p))|(go_at_call 66;(with_reducible refine Does.use hO (HF _) tk_ (du_ ?_);clear hO hf;intro x9 w9 hO hf))|(go_at_call 29;(with_reducible refine Does.use hO (HE _) tk_ (du_ ?_);clear hO hf;intro x9 w9 hO hf;(rename Nat=>e9)))|(refine sq_ ?_;clear hO hf;intro w9 hO hf));refine bodyPost_ret (results_tmp3 rfl _ _ _) rfl ?_;refine ⟨(p,e9),rfl,?_⟩;dsimp only;(try simp only [CA]);exact hO.cut sb_
structure ComQ (m B:Nat) (c:Core) (D:Nat→Option (Nat×Dv)) (i:Nat) (x:Dv) where
 n:Nat
 k:Nat
 c':Core
 D':Nat→Option (Nat×Dv)
 ok:ComOk m B c D i x n k c' D'
 hk:k≠10
 k9:k≤9
 f:c'.d.fuse=-1
theorem ComOk.kq {m B:Nat} {c:Core} {D:Nat→Option (Nat×Dv)} {i:Nat} {x:Dv} {n k:Nat} {c':Core} {D':Nat→Option (Nat×Dv)} (h:ComOk m B c D i x n k c' D') (hf:c.d.fuse=-1):k≤9∧c'.d.fuse=-1:=by
 cases h with
 | none h1=>exact ⟨Nat.zero_le _,hf⟩
 | late h1 h2=>exact ⟨Nat.le_refl _,hf⟩
 | full h1 h2 h3 h4=>exact ⟨Nat.le_trans h4 (by omega),hf⟩
 | done d h R0 W0 u h1 h2 h3 h4 h5=>exact ⟨Nat.zero_le _,h5 hf⟩
 | down c' h1 h2 h3 h4=>exact absurd hf h4
theorem zCF (e p m B:Nat) (c:Core) (D:Nat→Option (Nat×Dv)) (H:CoreOk m B c) (hB:B+1≤1000) (i:Nat) (hi:i<4) (x:Nat×Dv) (hD:D i=some x) (hx:DeedOk c x.2) (hf:c.d.fuse=-1) :
 Does Tryz.prog 22 #[.pointer (some ⟨e,0,none⟩),.int .i64 (i:Int)] [EngR e p m c D,zAC p c.d,.imm LibOk]
  (fun y:ComQ m B c D i x.2=>(.tuple #[.int .i64 (y.n:Int),errV y.k],[EngR e p m y.c' y.D',zAC p y.c'.d,.imm LibOk])):=
 (zLb e p m B c D H hB i hi x hD hx).wit fun y=>by
  obtain ⟨h1,h2⟩:=y.ok.kq hf;refine ⟨⟨y.n,y.k,y.c',y.D',y.ok,by omega,h1,h2⟩,?_⟩;dsimp only;rw [zEi (by omega)]
theorem zSI (e p m B:Nat) (c:Core) (D:Nat→Option (Nat×Dv)) (H:CoreOk m B c) (hB:B+1≤1000) (hf:c.d.fuse=-1) :
 Does Tryz.prog 28 #[.pointer (some ⟨e,0,none⟩)] [EngR e p m c D,zAC p c.d,.imm LibOk] (fun y:{c':Core // SaveOk m B c c'∧c'.d.fuse=-1}=>(.nilIface,[EngR e p m y.1 D,zAC p y.1.d,.imm LibOk])):=
 (zNh e p m B c D H hB).wit fun y=>by
  obtain ⟨k,c',hok⟩:=y;rcases hok with ⟨rfl,hs⟩ | ⟨_,h,_⟩
  ·exact ⟨⟨c',hs,(hs.leaves H hB hf).2.2⟩,rfl⟩
  ·exact absurd hf h
section
variable {e p m B:Nat} {c:Core} {D:Nat→Option (Nat×Dv)} {i:Nat} {x:Nat×Dv} {φ:World→Prop}
theorem zGS (hi:i<4) (hD:D i=some x) (hx:DeedOk c x.2) (key val:ByteArray) (hk:key.size≤300) (hv:val.size≤1000) (hφ:∀w,φ w→LibOk w) :
 Does Tryz.prog 44 #[.pointer (some ⟨x.1,0,none⟩),.string key,.string val] [EngR e p m c D,.imm φ]
  (fun _:Unit=>(errV (putN x.2.C ⟨key,val,false⟩),[EngR e p m c (setF D i (some (x.1,⟨x.2.since,putL x.2.C ⟨key,val,false⟩,x.2.R⟩))),.imm φ])):=
 zLc hi hD (rs:=[.imm φ]) (val:=fun _=>errV _) (C:=fun _=>putL x.2.C ⟨key,val,false⟩) (R:=fun _=>x.2.R) (out:=fun _=>[.imm φ]) fun v=>
  zEH x.1 v x.2.since x.2.C x.2.R key val hk hv (by have:=hx.q.c12;omega) hx.q.ups hφ
theorem zQ3 (H:CoreOk m B c) (hi:i<4) (hD:D i=some x) (hx:DeedOk c x.2) (key:ByteArray) (hk:key.size≤300) (hφ:∀w,φ w→LibOk w) :
 Does Tryz.prog 43 #[.pointer (some ⟨x.1,0,none⟩),.string key] [EngR e p m c D,.imm φ]
  (fun _:Unit=>(.tuple #[.string (getG (valR (c.at x.2.since) key) x.2.C x.2.R key).1,.bool (getG (valR (c.at x.2.since) key) x.2.C x.2.R key).2.1,errV (getG (valR (c.at x.2.since) key) x.2.C x.2.R key).2.2],
   [EngR e p m c (setF D i (some (x.1,⟨x.2.since,x.2.C,getB x.2.C x.2.R key⟩))),.imm φ])):=
 zG0 hi hD (rs:=[.imm φ]) (val:=fun _=>.tuple _) (C:=fun _=>x.2.C) (R:=fun _=>getB x.2.C x.2.R key) (out:=fun _=>[.imm φ]) fun v=>by
  have hs:=H.sees hx.f hx.le;have h1:=zE3 x.1 v x.2.since c.nn c.V x.2.C x.2.R key hk (by have:=hx.q.c12;omega) hx.q.ups hx.q.r40 hs.v6 hφ;rw [zIu,hs.rd] at h1;exact h1
theorem zLG (hi:i<4) (hD:D i=some x) (hx:DeedOk c x.2) :
 Does Tryz.prog 61 #[.pointer (some ⟨x.1,0,none⟩)] [EngR e p m c D]
  (fun y:Option Addr×Nat=>(.slice y.1 x.2.C.length y.2,[EngR e p m c D,Row2 142 3 y.1 x.2.C.length y.2 (chs x.2.C)])):=by
 have h:=zLc (e:=e) (p:=p) (m:=m) (c:=c) hi hD (rs:=[]) (val:=fun y:Option Addr×Nat=>.slice y.1 x.2.C.length y.2) (C:=fun _=>x.2.C) (R:=fun _=>x.2.R) (out:=fun y=>[Row2 142 3 y.1 x.2.C.length y.2 (chs x.2.C)]) fun v=>
  zF2 x.1 v x.2.since x.2.C x.2.R (by have:=hx.q.c12;omega)
 rw [zQc hD] at h;exact h
theorem zOo (H:CoreOk m B c) (hi:i<4) (hD:D i=some x) (hx:DeedOk c x.2) (lo hi':ByteArray) (most:Int) :
 Does Tryz.prog 56 #[.pointer (some ⟨x.1,0,none⟩),.agg #[.string lo,.string hi'],.int .i64 most] [EngR e p m c D]
  (fun y:Option Addr×Nat=>(.tuple #[.slice y.1 (scnO (inR lo hi' (x.2.C.foldl appR (c.at x.2.since))) x.2.R lo hi' most).length y.2,errV (scnN (inR lo hi' (x.2.C.foldl appR (c.at x.2.since))) x.2.R lo hi' most)],
   [EngR e p m c (setF D i (some (x.1,⟨x.2.since,x.2.C,scnB (inR lo hi' (x.2.C.foldl appR (c.at x.2.since))) x.2.R lo hi' most⟩))),Row2 177 2 y.1 (scnO (inR lo hi' (x.2.C.foldl appR (c.at x.2.since))) x.2.R lo hi' most).length y.2 ((scnO (inR lo hi' (x.2.C.foldl appR (c.at x.2.since))) x.2.R lo hi' most).flatMap rwC)])):=
 zG0 hi hD (rs:=[]) (val:=fun y:Option Addr×Nat=>.tuple #[.slice y.1 (scnO (inR lo hi' (x.2.C.foldl appR (c.at x.2.since))) x.2.R lo hi' most).length y.2,_]) (C:=fun _=>x.2.C) (R:=fun _=>scnB (inR lo hi' (x.2.C.foldl appR (c.at x.2.since))) x.2.R lo hi' most)
  (out:=fun y=>[Row2 177 2 y.1 (scnO (inR lo hi' (x.2.C.foldl appR (c.at x.2.since))) x.2.R lo hi' most).length y.2 ((scnO (inR lo hi' (x.2.C.foldl appR (c.at x.2.since))) x.2.R lo hi' most).flatMap rwC)]) fun v=>by
  have hs:=H.sees hx.f hx.le;exact zCm x.1 v x.2.since c.nn c.V x.2.C x.2.R lo hi' most _ (hs.scan x.2.C _ _) hs.nd (by have:=hx.q.c12;omega) hx.q.r40 hs.vl hs.v1 (zFA hs.qr hx.q _ _)
end
theorem CoreOk.start {m:Nat} (h1:4≤m) (h2:m≤150):CoreOk m 0 (Core.new (newD (m+50)) newH [] [] 0):=CoreOk.new (StUp.new (by omega) (by omega)) (by decide) (by omega)
theorem zCo (m:Nat):(Core.new (newD (m+50)) newH [] [] 0).nn=0∧(Core.new (newD (m+50)) newH [] [] 0).at 0=[]∧(Core.new (newD (m+50)) newH [] [] 0).d=newD (m+50)∧(Core.new (newD (m+50)) newH [] [] 0).d.fuse=-1∧(Core.new (newD (m+50)) newH [] [] 0).keys=[[]]:=⟨rfl,rfl,rfl,rfl,rfl⟩
theorem putA:putN [] cAx=0∧putL [] cAx=[cAx]:=by
 have e:putC [] cAx=[cAx]:=rfl;have h0:putN [] cAx=0:=by
  unfold putN;rw [if_neg (by rw [zDy.2 zNE];simp),if_neg (by rw [e];show ¬12<1;omega)]
 exact ⟨h0,by unfold putL;rw [if_pos h0,e]⟩
theorem QInv.cAx:QInv [cAx] []:=⟨List.pairwise_singleton _ _,by simp,by simp,fun c hc=>by rw [List.mem_singleton.1 hc];exact zDy.2 zNE⟩
theorem zEL (w:World) (h:LibOk w):Calls Tryz.prog 42 #[] w fun e w'=>e=.returned (.bool true)∧Ext w w':=by
 have hO:=zBX h;have HS:=zCX 30 (by omega) (by omega);rw [show ((30:Nat):Int)+50=80 from rfl] at HS;have H0:=CoreOk.start (m:=30) (by omega) (by omega);obtain ⟨f1,f2,f3,f4,f5⟩:=zCo 30;obtain ⟨c,hc⟩:∃c,c=Core.new (newD (30+50)) newH [] [] 0:=⟨_,rfl⟩
 rw [←hc] at HS H0 f1 f2 f3 f4 f5;rw [←f3] at HS;clear hc f3;have hc12:(c.at c.nn)=[]:=by rw [f1];exact f2
 have HB:=fun e p=>zDU e p 30 c (fun _=>none) 0 (by omega) rfl
 have HD:=fun e p q=>zCZ e p 30 c (setF (fun _=>none) 0 (some (q,⟨c.nn,[],[]⟩))) 0 (by omega) (q,⟨c.nn,[],[]⟩) rfl
 have HP:=fun e p q=>zGS (e:=e) (p:=p) (m:=30) (c:=c) (D:=setF (fun _=>none) 0 (some (q,⟨c.nn,[],[]⟩))) (i:=0) (x:=(q,⟨c.nn,[],[]⟩)) (φ:=LibOk) (by omega) rfl H0.fresh tkA ⟨#[120]⟩ (by decide) (by decide) (fun _ h=>h)
 dsimp only at HP;rw [show (⟨tkA,⟨#[120]⟩,false⟩:Ch)=cAx from rfl,putA.1,putA.2] at HP;rw [show errV 0=.nilIface from rfl] at HP;have hdd:DeedOk c ⟨c.nn,[cAx],[]⟩:=⟨H0.ps.le,H0.kn,Nat.le_refl _,QInv.cAx⟩
 have HC:=fun e p q=>zCF e p 30 0 c (setF (setF (fun _=>none) 0 (some (q,⟨c.nn,[],[]⟩))) 0 (some (q,⟨c.nn,[cAx],[]⟩))) H0 (by omega) 0 (by omega) (q,⟨c.nn,[cAx],[]⟩) rfl hdd f4
 unfold tkA at HP;simp only [show ((0:Nat):Int)=0 from rfl] at HB;simp only [show ((0:Nat):Int)=0 from rfl] at HD;simp only [show ((0:Nat):Int)=0 from rfl] at HC;have HDD:=Lib.hid hdd;have HH:=Lib.hid H0;clear hdd H0;(replace hf:=fa_ hO);go_enter Tryz.func42,Tryz.ntmps42;go_upto_region 8 with (first|(go_at_call 17;(with_reducible refine Does.use hO (HS) tk_ (du_ ?_);clear hO hf;intro x9 w9 hO hf;(obtain ⟨p,e⟩:=x9;dsimp only at hO ⊢;(replace hf:=fa_ hO))))|(go_at_call 20;(with_reducible refine Does.use hO (HB _ _) tk_ (du_ ?_);clear hO hf;intro x9 w9 hO hf;rename Nat=>q9))|(go_at_call 30;(with_reducible refine Does.use hO (HD _ _ _) tk_ (du_ ?_);clear hO hf;intro x9 w9 hO hf))|(go_at_call 44;(with_reducible refine Does.use hO (HP _ _ _) tk_ (du_ ?_);clear hO hf;intro x9 w9 hO hf))|(go_at_call 22;(with_reducible refine Does.use hO (HC _ _ _) tk_ (du_ ?_);clear hO hf;intro x9 w9 hO hf;(obtain ⟨n,k,c',D',ok,_,_,fz⟩:=x9;dsimp only at hO ⊢;(replace hf:=fa_ hO))))|(refine sq_ ?_;clear hO hf;intro w9 hO hf))
 have hcl:zBY c.keys [] c.nn=true:=by rw [f5,f1];rfl
 have hcm:zAl (c.at c.nn) [cAx] 30=0:=by
  rw [hc12];exact zIl (by simp) (zD4.2 fun c hc=>by rw [List.mem_singleton.1 hc];exact zNE) (by rw [zGB];simp)
 cases ok with
 | none h1=>cases h1
 | late h1 h2=>rw [hcl] at h2;cases h2
 | full h1 h2 h3 h4=>exact absurd hcm h3
 | down c' h1 h2 h3 h4=>exact absurd f4 h4
 | done d h R0 W0 u h1 h2 h3 h4 h5=>
  obtain ⟨s,hs⟩:∃s,s=zA5 (c.nn+1) (setF (setF (setF (fun _=>Option.none) 0 (some (q9,⟨c.nn,[],[]⟩))) 0 (some (q9,⟨c.nn,[cAx],[]⟩))) 0 Option.none):=⟨_,rfl⟩
  rw [←hs] at hO h4;clear hs;have hat:=HH.out.comAt [cAx] d h R0 W0 u s;rw [hc12] at hat;have hn:(c.com [cAx] d h R0 W0 u s).nn=c.nn+1:=rfl;have HR:=zCM e p 30 (c.com [cAx] d h R0 W0 u s) (setF (setF (setF (fun _=>Option.none) 0 (some (q9,⟨c.nn,[],[]⟩))) 0 (some (q9,⟨c.nn,[cAx],[]⟩))) 0 Option.none) (by rw [hn,hat,zGB];omega);rw [hn,hat,zGB] at HR;simp only [f1,show errV 0=.nilIface from rfl];dsimp only at hO;generalize c.com [cAx] d h R0 W0 u s=c1 at *;generalize setF (setF (setF (fun _=>Option.none) 0 (some (q9,⟨c.nn,[],[]⟩))) 0 (some (q9,⟨c.nn,[cAx],[]⟩))) 0 Option.none=D1 at *;(replace hf:=fa_ hO);go_wp2_with (first|(go_at_call 37;(with_reducible refine Does.use hO (HR) tk_ (du_ ?_);clear hO hf;intro x9 w9 hO hf;(obtain ⟨xa,xc⟩:=x9;dsimp only at hO ⊢;(replace hf:=fa_ hO))))|(refine sq_ ?_;clear hO hf;intro w9 hO hf));all_goals try (exfalso;omega;done)
  go_ret;exact ⟨rfl,hO.toExt⟩
def nowF (f:Nat→Value×Value×Value×Value):List Value:=
 [(f 0).1,(f 0).2.1,(f 0).2.2.1,(f 0).2.2.2,(f 1).1,(f 1).2.1,(f 1).2.2.1,(f 1).2.2.2,(f 2).1,(f 2).2.1,(f 2).2.2.1,(f 2).2.2.2,(f 3).1,(f 3).2.1,(f 3).2.2.1,(f 3).2.2.2]
def put0 (f:Nat→Value×Value×Value×Value) (s:Nat) (v:Value):Nat→Value×Value×Value×Value:=fun i=>if i=s then (v,(f i).2) else f i
def put1 (f:Nat→Value×Value×Value×Value) (s:Nat) (v:Value):Nat→Value×Value×Value×Value:=fun i=>if i=s then ((f i).1,v,(f i).2.2) else f i
def put2 (f:Nat→Value×Value×Value×Value) (s:Nat) (v:Value):Nat→Value×Value×Value×Value:=fun i=>if i=s then ((f i).1,(f i).2.1,v,(f i).2.2.2) else f i
def put3 (f:Nat→Value×Value×Value×Value) (s:Nat) (v:Value):Nat→Value×Value×Value×Value:=fun i=>if i=s then ((f i).1,(f i).2.1,(f i).2.2.1,v) else f i
theorem now0 (f:Nat→Value×Value×Value×Value) {s:Nat} (hs:s<4) (v:Value):(nowF f).set (s*4) v=nowF (put0 f s v):=by rcases zCT hs with rfl | rfl | rfl | rfl<;>rfl
theorem now1 (f:Nat→Value×Value×Value×Value) {s:Nat} (hs:s<4) (v:Value):(nowF f).set (s*4+1) v=nowF (put1 f s v):=by rcases zCT hs with rfl | rfl | rfl | rfl<;>rfl
theorem now2 (f:Nat→Value×Value×Value×Value) {s:Nat} (hs:s<4) (v:Value):(nowF f).set (s*4+2) v=nowF (put2 f s v):=by rcases zCT hs with rfl | rfl | rfl | rfl<;>rfl
theorem now3 (f:Nat→Value×Value×Value×Value) {s:Nat} (hs:s<4) (v:Value):(nowF f).set (s*4+3) v=nowF (put3 f s v):=by rcases zCT hs with rfl | rfl | rfl | rfl<;>rfl
theorem zBS {w:World} {g:Nat} {f:Nat→Value×Value×Value×Value} {t:TypeId} {s:Nat} (h:(Var g (nowF f) t).facts w) (hs:s<4) :
 w.cell? ⟨g,s*4,none⟩=some (f s).1∧w.cell? ⟨g,s*4+1,none⟩=some (f s).2.1∧w.cell? ⟨g,s*4+2,none⟩=some (f s).2.2.1∧w.cell? ⟨g,s*4+3,none⟩=some (f s).2.2.2:=by
 have h9:=fun i v (hv:(nowF f)[i]?=some v)=>(Var.at h i v hv:_)
 simp only [Nat.zero_add] at h9;rcases zCT hs with rfl | rfl | rfl | rfl
 ·exact ⟨h9 0 _ rfl,h9 1 _ rfl,h9 2 _ rfl,h9 3 _ rfl⟩
 ·exact ⟨h9 4 _ rfl,h9 5 _ rfl,h9 6 _ rfl,h9 7 _ rfl⟩
 ·exact ⟨h9 8 _ rfl,h9 9 _ rfl,h9 10 _ rfl,h9 11 _ rfl⟩
 ·exact ⟨h9 12 _ rfl,h9 13 _ rfl,h9 14 _ rfl,h9 15 _ rfl⟩
structure NV where
 a:Int
 r:Bool
 aa:Option Addr
 ac:Nat
 sa:Option Addr
 sc:Nat
 L:List (Ac×ByteArray)
def NV.z:NV:=⟨0,false,none,0,none,0,[]⟩
def acC (x:Ac):List Value:=[.string x.kind,.int .i64 x.a,.int .i64 x.b,.int .i64 x.c,.int .u64 x.k,.string x.s,.string x.t,.slice x.cp x.ch.length x.cc,.slice x.sp x.spn.length x.sc]
def nvQ (v:NV):Value×Value×Value×Value:=(.int .i64 v.a,.bool v.r,.slice v.aa v.L.length v.ac,.slice v.sa v.L.length v.sc)
def nvC (v:NV):List Value:=[.int .i64 v.a,.bool v.r,.slice v.aa v.L.length v.ac,.slice v.sa v.L.length v.sc]
def zDg (L:List (Ac×ByteArray)):List Value:=L.flatMap fun p=>acC p.1
def zCq (L:List (Ac×ByteArray)):List Value:=L.map fun p=>.string p.2
def setV (n:Nat→NV) (s:Nat) (v:NV):Nat→NV:=fun i=>if i=s then v else n i
def NV.done (v:NV) (n:Nat) (r:Bool):NV:=⟨(n:Int),r,v.aa,v.ac,v.sa,v.sc,v.L⟩
def NV.told (v:NV) (ka:Option Addr) (kc:Nat) (kb:Option Addr) (kd:Nat) (p:Ac×ByteArray):NV:=⟨v.a,v.r,ka,kc,kb,kd,v.L++[p]⟩
def NV.dl (v:NV):Dl:=⟨v.a.toNat,v.r,v.L⟩
theorem zHr (v:NV) (ka:Option Addr) (kc:Nat) (kb:Option Addr) (kd:Nat) (p:Ac×ByteArray):(v.told ka kc kb kd p).L.length=v.L.length+1:=by show (v.L++[p]).length=_;rw [List.length_append];rfl
theorem zT1 (n:Nat→NV) (s:Nat):put3 (put2 (put1 (put0 (fun t=>nvQ (n t)) s (.int .i64 0)) s (.bool false)) s (.slice none 0 0)) s (.slice none 0 0)=fun t=>nvQ (setV n s NV.z t):=by
 funext t
 unfold put3 put2 put1 put0 setV;by_cases h:t=s
 ·simp only [if_pos h];rfl
 ·simp only [if_neg h]
theorem zTh (n:Nat→NV) (s yn:Nat) (r:Bool):put1 (put0 (fun t=>nvQ (n t)) s (.int .i64 (yn:Int))) s (.bool r)=fun t=>nvQ (setV n s ((n s).done yn r) t):=by
 funext t
 unfold put1 put0 setV;by_cases h:t=s
 ·simp only [if_pos h];subst h;rfl
 ·simp only [if_neg h]
theorem zLL (n:Nat→NV) (s:Nat) (ka:Option Addr) (kc:Nat) (kb:Option Addr) (kd:Nat) (p:Ac×ByteArray):put3 (put2 (fun t=>nvQ (n t)) s (.slice ka ((n s).L.length+1) kc)) s (.slice kb ((n s).L.length+1) kd)=fun t=>nvQ (setV n s ((n s).told ka kc kb kd p) t):=by
 funext t
 unfold put3 put2 setV;by_cases h:t=s
 ·simp only [if_pos h];subst h;unfold nvQ;rw [zHr];rfl
 ·simp only [if_neg h]
def NvR (o:Option (Nat×Dv)) (v:NV):Rs:=match o with
 | none=>.pure True
 | some _=>.many [Row2 39 9 v.aa v.L.length v.ac (zDg v.L),Row2 9 1 v.sa v.L.length v.sc (zCq v.L)]
def zG6 (D:Nat→Option (Nat×Dv)) (n:Nat→NV):Rs:=.many [NvR (D 0) (n 0),NvR (D 1) (n 1),NvR (D 2) (n 2),NvR (D 3) (n 3)]
def NvX (D:Nat→Option (Nat×Dv)) (n:Nat→NV) (s j:Nat):Rs:=if j=s then .pure True else NvR (D j) (n j)
def NvBut (D:Nat→Option (Nat×Dv)) (n:Nat→NV) (s:Nat):Rs:=.many [NvX D n s 0,NvX D n s 1,NvX D n s 2,NvX D n s 3]
theorem NX:(∀D n,NvX D n 0 0=.pure True)∧(∀D n,NvX D n 0 1=NvR (D 1) (n 1))∧(∀D n,NvX D n 0 2=NvR (D 2) (n 2))∧(∀D n,NvX D n 0 3=NvR (D 3) (n 3))∧(∀D n,NvX D n 1 0=NvR (D 0) (n 0))∧(∀D n,NvX D n 1 1=.pure True)∧(∀D n,NvX D n 1 2=NvR (D 2) (n 2))∧(∀D n,NvX D n 1 3=NvR (D 3) (n 3))∧
 (∀D n,NvX D n 2 0=NvR (D 0) (n 0))∧(∀D n,NvX D n 2 1=NvR (D 1) (n 1))∧(∀D n,NvX D n 2 2=.pure True)∧(∀D n,NvX D n 2 3=NvR (D 3) (n 3))∧(∀D n,NvX D n 3 0=NvR (D 0) (n 0))∧(∀D n,NvX D n 3 1=NvR (D 1) (n 1))∧(∀D n,NvX D n 3 2=NvR (D 2) (n 2))∧(∀D n,NvX D n 3 3=.pure True):=
 ⟨fun _ _=>rfl,fun _ _=>rfl,fun _ _=>rfl,fun _ _=>rfl,fun _ _=>rfl,fun _ _=>rfl,fun _ _=>rfl,fun _ _=>rfl,fun _ _=>rfl,fun _ _=>rfl,fun _ _=>rfl,fun _ _=>rfl,fun _ _=>rfl,fun _ _=>rfl,fun _ _=>rfl,fun _ _=>rfl⟩
theorem NF:(∀n v,setV n 0 v 0=v)∧(∀n v,setV n 0 v 1=n 1)∧(∀n v,setV n 0 v 2=n 2)∧(∀n v,setV n 0 v 3=n 3)∧(∀n v,setV n 1 v 0=n 0)∧(∀n v,setV n 1 v 1=v)∧(∀n v,setV n 1 v 2=n 2)∧(∀n v,setV n 1 v 3=n 3)∧
 (∀n v,setV n 2 v 0=n 0)∧(∀n v,setV n 2 v 1=n 1)∧(∀n v,setV n 2 v 2=v)∧(∀n v,setV n 2 v 3=n 3)∧(∀n v,setV n 3 v 0=n 0)∧(∀n v,setV n 3 v 1=n 1)∧(∀n v,setV n 3 v 2=n 2)∧(∀n v,setV n 3 v 3=v):=
 ⟨fun _ _=>rfl,fun _ _=>rfl,fun _ _=>rfl,fun _ _=>rfl,fun _ _=>rfl,fun _ _=>rfl,fun _ _=>rfl,fun _ _=>rfl,fun _ _=>rfl,fun _ _=>rfl,fun _ _=>rfl,fun _ _=>rfl,fun _ _=>rfl,fun _ _=>rfl,fun _ _=>rfl,fun _ _=>rfl⟩
section
variable {S:Nat→Prop} {W w:World} {l l':List Rs} {D:Nat→Option (Nat×Dv)} {n:Nat→NV} {s:Nat}
theorem Own.nvTake (h:Own S W w l) (hs:s<4) (hp:Pick l (zG6 D n) l'):Own S W w (NvR (D s) (n s)::NvBut D n s::l'):=by
 have h1:=(h.pick hp).unpack (rs:=[NvR (D 0) (n 0),NvR (D 1) (n 1),NvR (D 2) (n 2),NvR (D 3) (n 3)]);simp only [List.cons_append,List.nil_append] at h1;replace h1:=h1.toPure trivial
 suffices h2:Own S W w (NvBut D n s::NvR (D s) (n s)::l') from h2.pick (.there _ (.here _ _))
 refine Own.pack (rs:=[NvX D n s 0,NvX D n s 1,NvX D n s 2,NvX D n s 3]) ?_;rcases zCT hs with rfl | rfl | rfl | rfl
 all_goals
  simp only [NX,List.cons_append,List.nil_append];exact h1.cut sb_
theorem Own.nvGive {o:Option (Nat×Dv)} {v:NV} (h:Own S W w (NvR o v::NvBut D n s::l)) (hs:s<4):Own S W w (zG6 (setF D s o) (setV n s v)::l):=by
 have h1:=(h.pick (.there _ (.here _ _))).unpack (rs:=[NvX D n s 0,NvX D n s 1,NvX D n s 2,NvX D n s 3]);simp only [List.cons_append,List.nil_append] at h1;refine Own.pack (rs:=[NvR (setF D s o 0) (setV n s v 0),NvR (setF D s o 1) (setV n s v 1),NvR (setF D s o 2) (setV n s v 2),NvR (setF D s o 3) (setV n s v 3)]) ?_;rcases zCT hs with rfl | rfl | rfl | rfl
 all_goals
  simp only [NX] at h1;simp only [NF,SF,List.cons_append,List.nil_append];exact h1.cut sb_
theorem zQ2 (n:Nat→NV) (s:Nat):setV n s (n s)=n:=by
 funext t;unfold setV;split
 ·rename_i h;rw [h]
 ·rfl
def zD5 (w:World) (dl:List NV):Prop:=∀d∈dl,ValsAt w d.aa (zDg d.L)∧ValsAt w d.sa (zCq d.L)
theorem Own.nvz (h:Own S W w l) (o:Option (Nat×Dv)):Own S W w (NvR o NV.z::l):=by
 cases o with
 | none=>exact h.toPure trivial
 | some x=>exact Own.pack (rs:=[Row2 39 9 none 0 0 [],Row2 9 1 none 0 0 []]) ((h.nil 9 1).nil 39 9)
theorem Own.nvAll (h:Own S W w l) (D:Nat→Option (Nat×Dv)):Own S W w (zG6 D (fun _=>NV.z)::l):=
 Own.pack (rs:=[NvR (D 0) NV.z,NvR (D 1) NV.z,NvR (D 2) NV.z,NvR (D 3) NV.z]) ((((h.nvz (D 3)).nvz (D 2)).nvz (D 1)).nvz (D 0))
theorem Own.dlsNone (h:Own S W w l):Own S W w (.imm (fun w=>zD5 w [])::l):=
 Own.toImm (r:=Row2 112 4 none 0 0 []) (φ:=fun w=>zD5 w []) (fun _ _ d hd=>by cases hd) (h.nil _ _)
theorem Own.nvOpen {y:Nat×Dv} {v:NV} (h:Own S W w (NvR (some y) v::l)):Own S W w (Row2 39 9 v.aa v.L.length v.ac (zDg v.L)::Row2 9 1 v.sa v.L.length v.sc (zCq v.L)::l):=
 h.unpack (rs:=[Row2 39 9 v.aa v.L.length v.ac (zDg v.L),Row2 9 1 v.sa v.L.length v.sc (zCq v.L)])
theorem Own.nvShut {v:NV} {ka kb:Option Addr} {kc kd:Nat} {x:Ac} {tx:ByteArray} {cs:List Value} (h:Own S W w l) (y:Nat×Dv) (hcs:acC x=cs) (ht:Takes l [Row2 39 9 ka (v.L.length+1) kc (zDg v.L++cs),Row2 9 1 kb (v.L.length+1) kd (zCq v.L++[.string tx])] l'):Own S W w (NvR (some y) (v.told ka kc kb kd (x,tx))::l'):=by
 subst hcs;have h0:=h.take ht;refine Own.pack (rs:=[Row2 39 9 ka (v.told ka kc kb kd (x,tx)).L.length kc (zDg (v.told ka kc kb kd (x,tx)).L),Row2 9 1 kb (v.told ka kc kb kd (x,tx)).L.length kd (zCq (v.told ka kc kb kd (x,tx)).L)]) ?_;rw [zHr,show zDg (v.told ka kc kb kd (x,tx)).L=zDg v.L++acC x from by show (v.L++[(x,tx)]).flatMap _=_;rw [List.flatMap_append];simp [zDg],show zCq (v.told ka kc kb kd (x,tx)).L=zCq v.L++[.string tx] from by show (v.L++[(x,tx)]).map _=_;rw [List.map_append];rfl];exact h0
theorem Own.nvDl {dl:List NV} {y:Nat×Dv} {v:NV} (h:Own S W w (NvR (some y) v::.imm (fun w=>zD5 w dl)::l)) (k:Nat) (r:Bool):Own S W w (.imm (fun w=>zD5 w (dl++[v.done k r]))::l):=by
 have h1:=h.nvOpen;have h2:=Own.toImm (r:=Row2 39 9 v.aa v.L.length v.ac (zDg v.L)) (φ:=fun w=>ValsAt w v.aa (zDg v.L)) (fun w h=>h.1) h1;have h3:=Own.toImm (r:=Row2 9 1 v.sa v.L.length v.sc (zCq v.L)) (φ:=fun w=>ValsAt w v.sa (zCq v.L)) (fun w h=>h.1) (h2.pick (.there _ (.here _ _)));have h4:=(h3.and.pick (.there _ (.here _ _))).and;exact h4.imp fun w hw d hd=>by
  rcases List.mem_append.1 hd with hd | hd
  ·exact hw.1 d hd
  ·rw [List.mem_singleton.1 hd];exact ⟨hw.2.2,hw.2.1⟩
end
def NvOk (q:PS) (n:Nat→NV):Prop:=∀s<4,∀x,q.D s=some x→(n s).a=0∧(n s).r=false∧(n s).L=q.N s
theorem Ac.ses_is (x:Ac) {s:Nat} (h:bits .and .i64 x.c 3=(s:Int)):x.ses=s:=by
 unfold Ac.ses;rw [h];rfl
theorem zFx {e p m B:Nat} {c:Core} {D:Nat→Option (Nat×Dv)} (H:CoreOk m B c) {i:Nat} (hi:i<4) {x:Nat×Dv} (hD:D i=some x) (hx:DeedOk c x.2) (a:Ac) (hs:a.s.size≤120) (ht:a.t.size≤100) {φ:World→Prop} (hφ:∀w,φ w→LibOk w) (hsp:∀w,φ w→SpansAt w a.sp a.spn∧a.spn.length≤maxLen)
 {res:Ms×Nat×List Ch×List Sp} (hr:zCx (c.at x.2.since) x.2.C x.2.R a res) :
 Does Tryz.prog 54 #[.pointer (some ⟨x.1,0,none⟩),a.v] [EngR e p m c D,.imm φ]
  (fun _:Unit=>(.string (zAd (c.at x.2.since) x.2.C x.2.R a res).1,[EngR e p m c (setF D i (some (x.1,⟨x.2.since,(zAd (c.at x.2.since) x.2.C x.2.R a res).2.1,(zAd (c.at x.2.since) x.2.C x.2.R a res).2.2⟩))),.imm φ])):=
 zG0 hi hD (rs:=[.imm φ]) (val:=fun _=>.string _) (C:=fun _=>(zAd (c.at x.2.since) x.2.C x.2.R a res).2.1) (R:=fun _=>(zAd (c.at x.2.since) x.2.C x.2.R a res).2.2) (out:=fun _=>[.imm φ])
  fun v=>zPr x.1 v x.2.since c.nn c.V (c.at x.2.since) (H.sees hx.f hx.le) x.2.C x.2.R hx.q a hs ht hφ hsp res hr
theorem Tryz.infoPlayAct:(Tryz.prog.info? 39).map (fun i=>(i.zero,i.size,i.bytes))=some (some (.agg #[.string ⟨#[]⟩,.int .i64 0,.int .i64 0,.int .i64 0,.int .u64 0,.string ⟨#[]⟩,.string ⟨#[]⟩,.slice none 0 0,.slice none 0 0]),9,128):=by kernel_rfl
theorem Tryz.infoPlay:(Tryz.prog.info? 112).map (fun i=>(i.zero,i.size,i.bytes))=some (some (.agg #[.int .i64 0,.bool false,.slice none 0 0,.slice none 0 0]),4,64):=by kernel_rfl
theorem zTC:(Tryz.prog.info? 9).map (fun i=>(i.zero,i.size,i.bytes))=some (some (.string ⟨#[]⟩),1,16):=by kernel_rfl
theorem PRun.next {m B:Nat} {p q q':PS} {l:List Ac} {i:Nat} (h:PRun m B p (l.take i) q) (hi:i<l.length) (h2:PStep m (B+i) q l[i] q'):PRun m B p (l.take (i+1)) q':=by
 rw [List.take_succ_eq_append_getElem hi];refine PRun.snoc _ h ?_;rw [List.length_take,Nat.min_eq_left (by omega)];exact h2
theorem NvOk.keep {q q':PS} {n:Nat→NV} (h:NvOk q n) (hN:q'.N=q.N) (hD:∀s<4,∀x,q'.D s=some x→∃y,q.D s=some y):NvOk q' n:=fun s hs x hx=>by
 obtain ⟨y,hy⟩:=hD s hs x hx;rw [hN];exact h s hs y hy
theorem ComOk.sub {m B:Nat} {c:Core} {D:Nat→Option (Nat×Dv)} {i:Nat} {x:Dv} {n k:Nat} {c':Core} {D':Nat→Option (Nat×Dv)} (h:ComOk m B c D i x n k c' D'):∀t z,D' t=some z→D t=some z:=fun t z hz=>by
 have hn:setF D i .none t=some z→D t=some z:=fun h=>by
  rcases zA1 h with ⟨_,h⟩ | ⟨_,h⟩
  ·cases h
  ·exact h
 cases h with
 | none h1=>exact hn hz
 | late h1 h2=>exact hn hz
 | full h1 h2 h3 h4=>exact hz
 | done d h R0 W0 u h1 h2 h3 h4 h5=>exact hn hz
 | down c' h1 h2 h3 h4=>exact hz
theorem ComOk.zero {m B:Nat} {c:Core} {D:Nat→Option (Nat×Dv)} {i:Nat} {x:Dv} {n k:Nat} {c':Core} {D':Nat→Option (Nat×Dv)} (h:ComOk m B c D i x n k c' D') (hk:k=0):D'=setF D i .none:=by
 cases h with
 | none h1=>rfl
 | late h1 h2=>cases hk
 | full h1 h2 h3 h4=>exact absurd hk h3
 | done d h R0 W0 u h1 h2 h3 h4 h5=>rfl
 | down c' h1 h2 h3 h4=>cases hk
theorem ComOk.some {m B:Nat} {c:Core} {D:Nat→Option (Nat×Dv)} {i:Nat} {x:Dv} {n k:Nat} {c':Core} {D':Nat→Option (Nat×Dv)} (h:ComOk m B c D i x n k c' D'):D'=setF D i .none∨D'=D:=by
 cases h with
 | none h1=>exact .inl rfl
 | late h1 h2=>exact .inl rfl
 | full h1 h2 h3 h4=>exact .inr rfl
 | done d h R0 W0 u h1 h2 h3 h4 h5=>exact .inl rfl
 | down c' h1 h2 h3 h4=>exact .inr rfl
theorem NvOk.done {m B:Nat} {q:PS} {n:Nat→NV} {s:Nat} {x:Dv} {yn:Nat} {yc:Core} {yD:Nat→Option (Nat×Dv)} {r:Bool} {v:NV} (h:NvOk q n) (hok:ComOk m B q.c q.D s x yn 0 yc yD):NvOk (q.end_ s yn r yc yD) (setV n s v):=fun t ht z hz=>by
 have hz2:yD t=some z:=hz;rw [hok.zero rfl] at hz2;rcases zA1 hz2 with ⟨_,h1⟩ | ⟨h0,h1⟩
 ·cases h1
 ·unfold setV;rw [if_neg h0];exact h t ht z h1
theorem zRb {q:PS} {n:Nat→NV} {s yn:Nat} {r:Bool} {yc:Core} {yD:Nat→Option (Nat×Dv)} {dl:List NV} (h:q.out=dl.map NV.dl) (hL:(n s).L=q.N s):(q.end_ s yn r yc yD).out=(dl++[(n s).done yn r]).map NV.dl:=by
 rw [List.map_append,←h];show q.out++[(⟨yn,r,q.N s⟩:Dl)]=q.out++[(⟨((yn:Int)).toNat,r,(n s).L⟩:Dl)]
 rw [hL,Int.toNat_natCast]
theorem NvOk.told {q:PS} {n:Nat→NV} {s:Nat} {y:Nat×Dv} {x:Ac} {yy:ByteArray×List Ch×List Sp} {ka kb:Option Addr} {kc kd:Nat} (h:NvOk q n) (hs:s<4) (hD:q.D s=some y):NvOk (q.act s y x yy) (setV n s ((n s).told ka kc kb kd (x,yy.1))):=fun t ht z hz=>by
 have h1:setF q.D s (some (y.1,⟨y.2.since,yy.2.1,yy.2.2⟩)) t=some z:=hz;show (setV n s _ t).a=0∧(setV n s _ t).r=false∧(setV n s _ t).L=zBg q.N s (q.N s++[(x,yy.1)]) t;unfold setV zBg;rcases zA1 h1 with ⟨rfl,_⟩ | ⟨h0,h2⟩
 ·rw [if_pos rfl,if_pos rfl];obtain ⟨g1,g2,g3⟩:=h t ht y hD;exact ⟨g1,g2,by show (n t).L++_=_;rw [g3]⟩
 ·rw [if_neg h0,if_neg h0];exact h t ht z h2
theorem NvOk.beg {q:PS} {n:Nat→NV} {s r:Nat} (h:NvOk q n):NvOk (q.beg s r) (setV n s NV.z):=fun t ht x hx=>by
 rcases zA1 hx with ⟨rfl,_⟩ | ⟨h0,h1⟩
 ·show (setV n t NV.z t).a=0∧(setV n t NV.z t).r=false∧(setV n t NV.z t).L=zBg q.N t [] t;unfold setV zBg;rw [if_pos rfl,if_pos rfl];exact ⟨rfl,rfl,rfl⟩
 ·show (setV n s NV.z t).a=0∧(setV n s NV.z t).r=false∧(setV n s NV.z t).L=zBg q.N s [] t;unfold setV zBg;rw [if_neg h0,if_neg h0];exact h t ht x h1
theorem zIR {n:Nat→NV} {s k:Nat} (v:NV) (hv:v.L.length≤k) (h:∀t<4,(n t).L.length≤k):∀t<4,(setV n s v t).L.length≤k:=fun t ht=>by
 unfold setV;split
 ·exact hv
 ·exact h t ht
theorem zB6 (n:Nat→NV) (s:Nat) (v:NV):setV n s v s=v:=if_pos rfl
theorem zB5 (f:Nat→Value×Value×Value×Value) (s:Nat) (v:Value):put0 f s v s=(v,(f s).2):=if_pos rfl
theorem zB7 (f:Nat→Value×Value×Value×Value) (s:Nat) (v:Value):put2 f s v s=((f s).1,(f s).2.1,v,(f s).2.2.2):=if_pos rfl
theorem Own.nvOff {S:Nat→Prop} {W w:World} {l l':List Rs} {D:Nat→Option (Nat×Dv)} {n:Nat→NV} {s:Nat} (h:Own S W w l) (hs:s<4) (hp:Pick l (zG6 D n) l'):Own S W w (zG6 (setF D s none) n::l'):=by
 have h1:=Own.nvGive (o:=none) (v:=n s) ((h.nvTake hs hp).tail.toPure trivial) hs
 rwa [zQ2] at h1
structure PlayX (m B:Nat) (c:Core) (D:Nat→Option (Nat×Dv)) (l:List Ac) where
 q:PS
 oa:Option Addr
 oc:Nat
 dl:List NV
 run:PRun m B ⟨c,D,fun _=>[],[]⟩ l q
 out:q.out=dl.map NV.dl
theorem zDa (e p m B:Nat) (c:Core) (D:Nat→Option (Nat×Dv)) (aa:Option Addr) (ac:Nat) (l:List Ac) (H:PSOk m B ⟨c,D,fun _=>[],[]⟩) (hB:B+l.length≤900) (hlight:∀x∈l,x.s.size≤120∧x.t.size≤100) :
 Does Tryz.prog 53 #[.pointer (some ⟨e,0,none⟩),.slice aa l.length ac] [EngR e p m c D,zAC p c.d,.imm LibOk,.imm (fun w=>ActsAt w aa l)]
  (fun y:PlayX m B c D l=>(.slice y.oa y.dl.length y.oc,[EngR e p m y.q.c y.q.D,zAC p y.q.c.d,.imm LibOk,.imm (fun w=>ActsAt w aa l),.imm (fun w=>ValsAt w y.oa (y.dl.flatMap nvC)),.imm (fun w=>zD5 w y.dl)])):=by
 obtain ⟨iA,hiA,hzA,hsA,hbA⟩:=info_parts Tryz.infoPlayAct;obtain ⟨iD,hiD,hzD,hsD,hbD⟩:=info_parts Tryz.infoPlay;obtain ⟨iS,hiS,hzS,hsS,hbS⟩:=info_parts zTC;have hl9:l.length≤900:=by omega
 intro S W w L0 hO;simp only [CA] at hO;(replace hf:=fa_ hO);go_enter Tryz.func53,Tryz.ntmps53;go_wp2_with (refine sq_ ?_;clear hO;(try clear hf);intro w9 hO hf);obtain ⟨g,hg9⟩:=(hO.pick (r:=Var _ [.int .i64 0,.bool false,.slice none 0 0,.slice none 0 0,.int .i64 0,.bool false,.slice none 0 0,.slice none 0 0,.int .i64 0,.bool false,.slice none 0 0,.slice none 0 0,.int .i64 0,.bool false,.slice none 0 0,.slice none 0 0] 203) pk_).named;rw [←hg9];rw [←hg9] at hO;clear hg9;replace hO:=(hO.pick (r:=.imm LibOk) pk_).again.take (rs:=[.imm LibOk,.imm (fun w=>ActsAt w aa l)]) tk_;simp only [List.cons_append,List.nil_append] at hO;replace hO:=hO.and;have hO9:=(hO.nvAll D).dlsNone.nil 112 4;clear hO hf;dsimp only [NV.z] at hO9;go_loopw [5,7] (fun v5 v7 wr=>∃(i:Nat) (q:PS) (n:Nat→NV) (oa:Option Addr) (oc:Nat) (dl:List NV),v5=.slice oa dl.length oc∧v7=.int .i64 (i:Int)∧i≤l.length∧
  Hid (PRun m B ⟨c,D,fun _=>[],[]⟩ (l.take i) q∧NvOk q n∧q.out=dl.map NV.dl∧dl.length≤i∧∀s<4,(n s).L.length≤i)∧
  Own S W wr (Var g (nowF fun t=>nvQ (n t)) 203::zG6 q.D n::EngR e p m q.c q.D::zAC p q.c.d::Row2 112 4 oa dl.length oc (dl.flatMap nvC)::.imm (fun w=>zD5 w dl)::.imm LibOk::.imm (fun w=>LibOk w∧ActsAt w aa l)::L0)) (fun _ v _=>l.length+1-(intOf v).toNat)
 case atStart=>
  refine ⟨0,⟨c,D,fun _=>[],[]⟩,fun _=>NV.z,none,0,[],rfl,rfl,by omega,Lib.hid ⟨.nil,fun s _ x _=>⟨rfl,rfl,rfl⟩,rfl,by simp,fun s _=>by simp [NV.z]⟩,?_⟩;dsimp only [nowF,nvQ,NV.z,List.length_nil];rw [show ([]:List NV).flatMap nvC=[] from rfl];exact hO9.cut sb_
 case round=>
  clear hO9;obtain ⟨i,q,n,oa,oc,dl,rfl,rfl,hi,HI,hO⟩:=hrel;rename World=>w1
  obtain ⟨HR,HN,HOUT,hdl,hnl⟩:=HI.out;clear HI;(replace hf:=fa_ hO);by_cases hlt:i<l.length
  ·have HOK:=HR.ok H (by rw [List.length_take];omega);rw [List.length_take,Nat.min_eq_left (by omega)] at HOK;have hA0:=(Own.immOf (φ:=fun w=>LibOk w∧ActsAt w aa l) hO pk_).2;obtain ⟨hs1,hs2⟩:=hA0;rcases hs1 with h0 | ⟨b,off,rfl,hc⟩
   ·rw [h0] at hlt;simp at hlt
   have hA:=hc i hlt;clear hc hs2;have hm:=List.getElem_mem hlt;have hsp:∀w,(LibOk w∧ActsAt w (some ⟨b,off,none⟩) l)→SpansAt w (l[i]).sp (l[i]).spn∧(l[i]).spn.length≤maxLen:=fun w h=>⟨(h.2.2 _ hm).2.2.1,(h.2.2 _ hm).2.2.2.2⟩
   have hsz:=hlight _ hm;have hstep:=fun q' (h:PStep m (B+i) q l[i] q')=>HR.next hlt h
   clear hm;generalize l[i]=x at *;obtain ⟨s,hs4,hse⟩:=and3 x.c;have hses:=x.ses_is hse;obtain ⟨k0,k1,k2,k3,k4,k5,k6,k7,k8⟩:=hA;have HH:=Lib.hid (show NvOk q n∧q.out=dl.map NV.dl∧dl.length≤i∧(∀s<4,(n s).L.length≤i)∧PSOk m (B+i) q from ⟨HN,HOUT,hdl,hnl,HOK⟩);have HSTEP:=Lib.hid hstep;clear HN HOUT hdl hnl HOK hstep HR;obtain ⟨xkind,xA,xB,xC,xK,xS,xT,xcp,xcc,xch,xsp,xsc,xspn⟩:=x;dsimp only at k0 k1 k2 k3 k4 k5 k6 k7 k8 hsz hse hsp;cases kb:(xkind.toList==[98,101,103,105,110]) with
   | true=>
    have hk:xkind.toList=[98,101,103,105,110]:=eq_of_beq kb;cases hD:q.D s with
    | none=>
     have HB:=zDU e p m q.c q.D s hs4 hD;have HN:=Lib.hid (show ∀r,PRun m B ⟨c,D,fun _=>[],[]⟩ (l.take (i+1)) (q.beg s r)∧NvOk (q.beg s r) (setV n s NV.z)∧(q.beg s r).out=dl.map NV.dl∧dl.length≤i+1∧∀t<4,(setV n s NV.z t).L.length≤i+1 from fun r=>
      ⟨HSTEP.out _ (by have:=PStep.beg (m:=m) (B:=B+i) (p:=q) r hk (by rw [hses];exact hD);rw [hses] at this;exact this),HH.out.1.beg,HH.out.2.1,by have:=HH.out.2.2.1;omega,zIR _ (by simp [NV.z]) fun t ht=>by have:=HH.out.2.2.2.1 t ht;omega⟩)
     go_upto_region 15 with (first|(go_at_call 20;(with_reducible refine Does.use hO (HB) tk_ (du_ ?_);clear hO;(try clear hf);intro x9 w9 hO hf;rename Nat=>q9))|(refine sq_ ?_;clear hO;(try clear hf);intro w9 hO hf))
     (obtain ⟨c0,c1,c2,c3⟩:=zBS (s:=s) (hO.factOf (r:=Var g (nowF _) 203) pk_) hs4;(try simp only [zB6,zB5,zB7] at c0 c1 c2 c3);dsimp only [nvQ,NV.done] at c0 c1 c2 c3);go_wp2_with (refine sq_ ?_;clear hO;(try clear hf);intro w9 hO hf);all_goals try (exfalso;omega;done)
     rw [now0 _ hs4,now1 _ hs4,now2 _ hs4,now3 _ hs4,zT1] at hO;replace hO:=Own.nvGive ((hO.nvTake (D:=q.D) (n:=n) hs4 pk_).tail.nvz (some (q9,⟨q.c.nn,[],[]⟩))) hs4;exact ⟨⟨i+1,_,_,oa,oc,dl,rfl,by go_num,by omega,Lib.hid (HN.out q9),(by simp only [PS.beg];exact hO.cut sb_)⟩,by simp [intOf];omega⟩
    | some y=>
     have HB:=zNM e p m q.c q.D s hs4 y hD;have HN:=Lib.hid (show PRun m B ⟨c,D,fun _=>[],[]⟩ (l.take (i+1)) q∧NvOk q n∧q.out=dl.map NV.dl∧dl.length≤i+1∧∀t<4,(n t).L.length≤i+1 from
      ⟨HSTEP.out _ .same,HH.out.1,HH.out.2.1,by have:=HH.out.2.2.1;omega,fun t ht=>by have:=HH.out.2.2.2.1 t ht;omega⟩)
     simp only [show errV 7=.iface 124 (.int .i64 7) from rfl] at HB;go_wp2_with (first|(go_at_call 20;(with_reducible refine Does.use hO (HB) tk_ (du_ ?_);clear hO;(try clear hf);intro x9 w9 hO hf))|(refine sq_ ?_;clear hO;(try clear hf);intro w9 hO hf));all_goals try (exfalso;omega;done)
     exact ⟨⟨i+1,q,n,oa,oc,dl,rfl,by go_num,by omega,HN,hO.cut sb_⟩,by simp [intOf];omega⟩
   | false=>
    cases kc:(xkind.toList==[99,111,109,109,105,116]) with
    | true=>
     have hk:xkind.toList=[99,111,109,109,105,116]:=eq_of_beq kc;cases hD:q.D s with
     | none=>
      have HDD:=zCg e p m q.c q.D s hs4 hD;have HN:=Lib.hid (show PRun m B ⟨c,D,fun _=>[],[]⟩ (l.take (i+1)) q∧NvOk q n∧q.out=dl.map NV.dl∧dl.length≤i+1∧∀t<4,(n t).L.length≤i+1 from ⟨HSTEP.out _ .same,HH.out.1,HH.out.2.1,by have:=HH.out.2.2.1;omega,fun t ht=>by have:=HH.out.2.2.2.1 t ht;omega⟩);simp only [show errV 7=.iface 124 (.int .i64 7) from rfl] at HDD;go_wp2_with (first|(go_at_call 30;(with_reducible refine Does.use hO (HDD) tk_ (du_ ?_);clear hO;(try clear hf);intro x9 w9 hO hf))|(refine sq_ ?_;clear hO;(try clear hf);intro w9 hO hf));all_goals try (exfalso;omega;done)
      exact ⟨⟨i+1,q,n,oa,oc,dl,rfl,by go_num,by omega,HN,hO.cut sb_⟩,by simp [intOf];omega⟩
     | some y=>
      have HDD:=zCZ e p m q.c q.D s hs4 y hD;have hdd:=HH.out.2.2.2.2.d s hs4 y hD;have HCH:=zLG (e:=e) (p:=p) (m:=m) hs4 hD hdd;have HCM:=zCF e p m (B+i) q.c q.D HH.out.2.2.2.2.c (by omega) s hs4 y hD hdd HH.out.2.2.2.2.f;have HN:=fun yn yc yD (hok:ComOk m (B+i) q.c q.D s y.2 yn 0 yc yD)=>HSTEP.out _ (.com y yn yc yD hk (by rw [hses];exact hD) (by rw [hses];exact hok))
      have HN2:=fun yn yk yc yD (h0:yk≠0) (h1:yk≠10) (hok:ComOk m (B+i) q.c q.D s y.2 yn yk yc yD)=>HSTEP.out _ (.comno y yn yk yc yD hk (by rw [hses];exact hD) h0 h1 (by rw [hses];exact hok))
      rw [hses] at HN;have hL:=(HH.out.1 s hs4 y hD).2.2;have HNX:=Lib.hid (show ∀yn yc yD,ComOk m (B+i) q.c q.D s y.2 yn 0 yc yD→PRun m B ⟨c,D,fun _=>[],[]⟩ (l.take (i+1)) (q.end_ s yn (decide (y.2.C.length=0)) yc yD)∧NvOk (q.end_ s yn (decide (y.2.C.length=0)) yc yD) (setV n s ((n s).done yn (decide (y.2.C.length=0))))∧
       (q.end_ s yn (decide (y.2.C.length=0)) yc yD).out=(dl++[(n s).done yn (decide (y.2.C.length=0))]).map NV.dl∧(dl++[(n s).done yn (decide (y.2.C.length=0))]).length≤i+1∧∀t<4,(setV n s ((n s).done yn (decide (y.2.C.length=0))) t).L.length≤i+1 from fun yn yc yD hok=>
       ⟨HN yn yc yD hok,HH.out.1.done hok,zRb HH.out.2.1 hL,by rw [List.length_append,List.length_singleton];have:=HH.out.2.2.1;omega,zIR _ (Nat.le_succ_of_le (HH.out.2.2.2.1 s hs4)) fun t ht=>by have:=HH.out.2.2.2.1 t ht;omega⟩)
      have HNY:=Lib.hid (show ∀yn yk yc yD,yk≠0→yk≠10→ComOk m (B+i) q.c q.D s y.2 yn yk yc yD→PRun m B ⟨c,D,fun _=>[],[]⟩ (l.take (i+1)) ⟨yc,yD,q.N,q.out⟩∧NvOk ⟨yc,yD,q.N,q.out⟩ n∧q.out=dl.map NV.dl∧dl.length≤i+1∧∀t<4,(n t).L.length≤i+1 from fun yn yk yc yD h0 h1 hok=>
       ⟨HN2 yn yk yc yD h0 h1 hok,HH.out.1.keep (q':=⟨yc,yD,q.N,q.out⟩) rfl fun t ht z hz=>⟨z,hok.sub t z hz⟩,HH.out.2.1,by have:=HH.out.2.2.1;omega,fun t ht=>by have:=HH.out.2.2.2.1 t ht;omega⟩)
      clear HN HN2 hL;have hdl:=HH.out.2.2.1;obtain ⟨rb,hrb⟩:∃rb,rb=decide (y.2.C.length=0):=⟨_,rfl⟩
      rw [←hrb] at HNX;have hCb:((y.2.C.length:Int)==0)=rb:=by
       rw [hrb];by_cases h0:y.2.C.length=0
       ·rw [decide_eq_true h0,h0];rfl
       ·rw [decide_eq_false h0];exact beq_eq_false_iff_ne.2 (by omega)
      clear hrb;go_upto_region 21 with (first|(go_at_call 30;(with_reducible refine Does.use hO (HDD) tk_ (du_ ?_);clear hO;(try clear hf);intro x9 w9 hO hf))|(go_at_call 61;(with_reducible refine Does.use hO (HCH) tk_ (du_ ?_);clear hO;(try clear hf);intro x9 w9 hO hf;(obtain ⟨ca,cc⟩:=x9;dsimp only at hO ⊢;(replace hf:=fa_ hO))))|(go_at_call 22;(with_reducible refine Does.use hO (HCM) tk_ (du_ ?_);clear hO;(try clear hf);intro x9 w9 hO hf;(obtain ⟨yn,yk,yc,yD,yok,y10,y9,yf⟩:=x9;dsimp only at hO ⊢;(replace hf:=fa_ hO))))|(refine sq_ ?_;clear hO;(try clear hf);intro w9 hO hf))
      all_goals try (exfalso;omega;done)
      by_cases hk0:yk=0
      ·subst hk0;have hX:=Lib.hid (HNX.out yn yc yD yok);have hyD:=yok.zero rfl;clear HNX HNY yok;subst hyD;simp only [show errV 0=Value.nilIface from rfl];(obtain ⟨c0,c1,c2,c3⟩:=zBS (s:=s) (hO.factOf (r:=Var g (nowF _) 203) pk_) hs4;(try simp only [zB6,zB5,zB7] at c0 c1 c2 c3);dsimp only [nvQ,NV.done] at c0 c1 c2 c3);go_upto_region 23 with (first|(refine sq_ ?_;clear hO;(try clear hf);intro w9 hO hf))
       clear c0 c1 c2 c3;rw [now0 _ hs4] at hO;(replace hf:=fa_ hO);(obtain ⟨c0,c1,c2,c3⟩:=zBS (s:=s) (hO.factOf (r:=Var g (nowF _) 203) pk_) hs4;(try simp only [zB6,zB5,zB7] at c0 c1 c2 c3);dsimp only [nvQ,NV.done] at c0 c1 c2 c3);go_upto_region 24 with (first|(refine sq_ ?_;clear hO;(try clear hf);intro w9 hO hf))
       clear c0 c1 c2 c3;rw [now1 _ hs4,zTh] at hO;(replace hf:=fa_ hO);(obtain ⟨c0,c1,c2,c3⟩:=zBS (s:=s) (hO.factOf (r:=Var g (nowF _) 203) pk_) hs4;(try simp only [zB6,zB5,zB7] at c0 c1 c2 c3);dsimp only [nvQ,NV.done] at c0 c1 c2 c3);go_wp2_with (first|(at_builtin;(refine zAH (e:=112) (size:=4) (xs:=dl.flatMap nvC) (news:=[.int .i64 (yn:Int),.bool rb,.slice (n s).aa (n s).L.length (n s).ac,.slice (n s).sa (n s).L.length (n s).sc]) hO pk_ pk_ rfl (.tmp 100) (.tmp 104) 101 rfl iD _ 64 Tryz.underlying101 hiD hzD hsD hbD rfl (by omega) rfl _ _ rfl rfl (by repeat (first | exact zAp | refine zAf rfl ?_)) (by unfold maxLen;omega) (by omega) ?_;clear hO;intro ka9 kc9 w9 hO;(replace hf:=fa_ hO)))|(refine sq_ ?_;clear hO;(try clear hf);intro w9 hO hf));all_goals try (exfalso;omega;done)
       replace hO:=hO.nvTake (D:=q.D) (n:=n) hs4 pk_;rw [hD] at hO;replace hO:=((hO.pick (r:=.imm (fun w=>zD5 w dl)) pk_).pick (r:=NvR (some y) (n s)) pk_).nvDl yn rb;replace hO:=Own.nvGive (o:=none) (v:=(n s).done yn rb) ((hO.pick (r:=NvBut q.D n s) pk_).toPure trivial) hs4;exact ⟨⟨i+1,_,_,ka9,kc9,_,(by rw [List.length_append,List.length_singleton]),by go_num,by omega,hX,(by simp only [PS.end_];rw [List.length_append,List.length_singleton,List.flatMap_append,show ([(n s).done yn rb]:List NV).flatMap nvC=[.int .i64 (yn:Int),.bool rb,.slice (n s).aa (n s).L.length (n s).ac,.slice (n s).sa (n s).L.length (n s).sc] from rfl];exact hO.cut sb_)⟩,by simp [intOf];omega⟩
      ·have hX:=Lib.hid (HNY.out yn yk yc yD hk0 y10 yok);have hyD:=yok.some;clear HNX HNY yok;simp only [show errV yk=Value.iface 124 (.int .i64 yk) from if_neg hk0];rcases hyD with rfl | rfl
       ·go_wp2_with (refine sq_ ?_;clear hO;(try clear hf);intro w9 hO hf);all_goals try (exfalso;omega;done)
        replace hO:=hO.nvOff (D:=q.D) (n:=n) hs4 pk_;exact ⟨⟨i+1,_,n,oa,oc,dl,rfl,by go_num,by omega,hX,hO.cut sb_⟩,by simp [intOf];omega⟩
       ·go_wp2_with (refine sq_ ?_;clear hO;(try clear hf);intro w9 hO hf);all_goals try (exfalso;omega;done)
        exact ⟨⟨i+1,_,n,oa,oc,dl,rfl,by go_num,by omega,hX,hO.cut sb_⟩,by simp [intOf];omega⟩
    | false=>
     have hHc:=HH.out.2.2.2.2.c;have hHn:=hHc.nB;have hHv:=zJb (n:=100000) (V:=q.c.V) (by have:=hHc.vc;omega);cases kd:(xkind.toList==[97,98,111,114,116]) with
     | true=>
      have hk:xkind.toList=[97,98,111,114,116]:=eq_of_beq kd;cases hD:q.D s with
      | none=>
       have HAB:=zE6 e (s:Int) 7 (EngR e p m q.c q.D) (by omega) (zCg e p m q.c q.D s hs4 hD);have HN:=Lib.hid (show PRun m B ⟨c,D,fun _=>[],[]⟩ (l.take (i+1)) q∧NvOk q n∧q.out=dl.map NV.dl∧dl.length≤i+1∧∀t<4,(n t).L.length≤i+1 from ⟨HSTEP.out _ .same,HH.out.1,HH.out.2.1,by have:=HH.out.2.2.1;omega,fun t ht=>by have:=HH.out.2.2.2.1 t ht;omega⟩);simp only [show errV 7=.iface 124 (.int .i64 7) from rfl] at HAB;go_wp2_with (first|(go_at_call 24;(with_reducible refine Does.use hO (HAB) tk_ (du_ ?_);clear hO;(try clear hf);intro x9 w9 hO hf))|(refine sq_ ?_;clear hO;(try clear hf);intro w9 hO hf));all_goals try (exfalso;omega;done)
       exact ⟨⟨i+1,q,n,oa,oc,dl,rfl,by go_num,by omega,HN,hO.cut sb_⟩,by simp [intOf];omega⟩
      | some y=>
       have HAB:=zE5 e p m q.c q.D s hs4 y hD;have hst:=HSTEP.out _ (.ab y hk (by rw [hses];exact hD));rw [hses] at hst;have HN:=Lib.hid (show PRun m B ⟨c,D,fun _=>[],[]⟩ (l.take (i+1)) ⟨q.c,setF q.D s none,q.N,q.out⟩∧NvOk ⟨q.c,setF q.D s none,q.N,q.out⟩ n∧q.out=dl.map NV.dl∧dl.length≤i+1∧∀t<4,(n t).L.length≤i+1 from
       ⟨hst,HH.out.1.keep (q':=⟨q.c,setF q.D s none,q.N,q.out⟩) rfl fun t ht z hz=>⟨z,by rcases zA1 hz with ⟨_,h⟩ | ⟨_,h⟩;cases h;exact h⟩,HH.out.2.1,by have:=HH.out.2.2.1;omega,fun t ht=>by have:=HH.out.2.2.2.1 t ht;omega⟩)
       clear hst;go_wp2_with (first|(go_at_call 24;(with_reducible refine Does.use hO (HAB) tk_ (du_ ?_);clear hO;(try clear hf);intro x9 w9 hO hf))|(refine sq_ ?_;clear hO;(try clear hf);intro w9 hO hf));all_goals try (exfalso;omega;done)
       replace hO:=hO.nvOff (D:=q.D) (n:=n) hs4 pk_;exact ⟨⟨i+1,_,n,oa,oc,dl,rfl,by go_num,by omega,HN,hO.cut sb_⟩,by simp [intOf];omega⟩
     | false=>
      cases ke:(xkind.toList==[118,97,99,117,117,109]) with
      | true=>
       have hk:xkind.toList=[118,97,99,117,117,109]:=eq_of_beq ke;have HV:=zPq e p m q.c q.D (by omega) hHv;have HN:=Lib.hid (show PRun m B ⟨c,D,fun _=>[],[]⟩ (l.take (i+1)) ⟨q.c.vac (zA5 q.c.nn q.D),q.D,q.N,q.out⟩∧NvOk ⟨q.c.vac (zA5 q.c.nn q.D),q.D,q.N,q.out⟩ n∧q.out=dl.map NV.dl∧dl.length≤i+1∧∀t<4,(n t).L.length≤i+1 from
       ⟨HSTEP.out _ (.vac hk),HH.out.1.keep (q':=⟨q.c.vac (zA5 q.c.nn q.D),q.D,q.N,q.out⟩) rfl fun t ht z hz=>⟨z,hz⟩,HH.out.2.1,by have:=HH.out.2.2.1;omega,fun t ht=>by have:=HH.out.2.2.2.1 t ht;omega⟩)
       go_wp2_with (first|(go_at_call 26;(with_reducible refine Does.use hO (HV) tk_ (du_ ?_);clear hO;(try clear hf);intro x9 w9 hO hf))|(refine sq_ ?_;clear hO;(try clear hf);intro w9 hO hf));all_goals try (exfalso;omega;done)
       exact ⟨⟨i+1,_,n,oa,oc,dl,rfl,by go_num,by omega,HN,(by simp only [CV];exact hO.cut sb_)⟩,by simp [intOf];omega⟩
      | false=>
       cases kf:(xkind.toList==[115,97,118,101]) with
       | true=>
        have hk:xkind.toList=[115,97,118,101]:=eq_of_beq kf;have HS:=zSI e p m (B+i) q.c q.D hHc (by omega) HH.out.2.2.2.2.f;have HN:=Lib.hid (show ∀c',SaveOk m (B+i) q.c c'→PRun m B ⟨c,D,fun _=>[],[]⟩ (l.take (i+1)) ⟨c',q.D,q.N,q.out⟩∧NvOk ⟨c',q.D,q.N,q.out⟩ n∧q.out=dl.map NV.dl∧dl.length≤i+1∧∀t<4,(n t).L.length≤i+1 from fun c' hs=>⟨HSTEP.out _ (.save c' hk hs),HH.out.1.keep (q':=⟨c',q.D,q.N,q.out⟩) rfl fun t ht z hz=>⟨z,hz⟩,HH.out.2.1,by have:=HH.out.2.2.1;omega,fun t ht=>by have:=HH.out.2.2.2.1 t ht;omega⟩);go_wp2_with (first|(go_at_call 28;(with_reducible refine Does.use hO (HS) tk_ (du_ ?_);clear hO;(try clear hf);intro x9 w9 hO hf;(obtain ⟨c',hsv,hfu⟩:=x9;dsimp only at hO ⊢;(replace hf:=fa_ hO))))|(refine sq_ ?_;clear hO;(try clear hf);intro w9 hO hf));all_goals try (exfalso;omega;done)
        exact ⟨⟨i+1,_,n,oa,oc,dl,rfl,by go_num,by omega,Lib.hid (HN.out c' hsv),hO.cut sb_⟩,by simp [intOf];omega⟩
       | false=>
        cases hD:q.D s with
        | none=>
         have HDD:=zCg e p m q.c q.D s hs4 hD;have HN:=Lib.hid (show PRun m B ⟨c,D,fun _=>[],[]⟩ (l.take (i+1)) q∧NvOk q n∧q.out=dl.map NV.dl∧dl.length≤i+1∧∀t<4,(n t).L.length≤i+1 from ⟨HSTEP.out _ .same,HH.out.1,HH.out.2.1,by have:=HH.out.2.2.1;omega,fun t ht=>by have:=HH.out.2.2.2.1 t ht;omega⟩);simp only [show errV 7=.iface 124 (.int .i64 7) from rfl] at HDD;go_wp2_with (first|(go_at_call 30;(with_reducible refine Does.use hO (HDD) tk_ (du_ ?_);clear hO;(try clear hf);intro x9 w9 hO hf))|(refine sq_ ?_;clear hO;(try clear hf);intro w9 hO hf));all_goals try (exfalso;omega;done)
         exact ⟨⟨i+1,q,n,oa,oc,dl,rfl,by go_num,by omega,HN,hO.cut sb_⟩,by simp [intOf];omega⟩
        | some y=>
         have HDD:=zCZ e p m q.c q.D s hs4 y hD;have hdd:=HH.out.2.2.2.2.d s hs4 y hD;obtain ⟨res,hr⟩:=zIL xS xA xB (hdd.qr hHc) hdd.q;have HTL:=zFx (e:=e) (p:=p) (m:=m) hHc hs4 hD hdd ⟨xkind,xA,xB,xC,xK,xS,xT,xcp,xcc,xch,xsp,xsc,xspn⟩ hsz.1 hsz.2 (φ:=fun w=>LibOk w∧ActsAt w (some ⟨b,off,none⟩) l) (fun _ h=>h.1) hsp (res:=res) hr;have hst:=HSTEP.out _ (.told y res (by rw [hses];exact hD) hr);rw [hses] at hst;have hcs:acC ⟨xkind,xA,xB,xC,xK,xS,xT,xcp,xcc,xch,xsp,xsc,xspn⟩=[.string xkind,.int .i64 xA,.int .i64 xB,.int .i64 xC,.int .u64 xK,.string xS,.string xT,.slice xcp xch.length xcc,.slice xsp xspn.length xsc]:=rfl;unfold Ac.v at HTL;dsimp only at HTL;generalize zAd (q.c.at y.2.since) y.2.C y.2.R ⟨xkind,xA,xB,xC,xK,xS,xT,xcp,xcc,xch,xsp,xsc,xspn⟩ res=yy at *;have HN:=Lib.hid (show ∀ka kc kb kd,PRun m B ⟨c,D,fun _=>[],[]⟩ (l.take (i+1)) (q.act s y ⟨xkind,xA,xB,xC,xK,xS,xT,xcp,xcc,xch,xsp,xsc,xspn⟩ yy)∧NvOk (q.act s y ⟨xkind,xA,xB,xC,xK,xS,xT,xcp,xcc,xch,xsp,xsc,xspn⟩ yy) (setV n s ((n s).told ka kc kb kd (⟨xkind,xA,xB,xC,xK,xS,xT,xcp,xcc,xch,xsp,xsc,xspn⟩,yy.1)))∧q.out=dl.map NV.dl∧dl.length≤i+1∧
          ∀t<4,(setV n s ((n s).told ka kc kb kd (⟨xkind,xA,xB,xC,xK,xS,xT,xcp,xcc,xch,xsp,xsc,xspn⟩,yy.1)) t).L.length≤i+1 from fun ka kc kb kd=>
          ⟨hst,HH.out.1.told hs4 hD,HH.out.2.1,by have:=HH.out.2.2.1;omega,zIR _ (by rw [zHr];exact Nat.succ_le_succ (HH.out.2.2.2.1 s hs4)) fun t ht=>by have:=HH.out.2.2.2.1 t ht;omega⟩)
         have HnL:=HH.out.2.2.2.1 s hs4;obtain ⟨tx,C',R'⟩:=yy;dsimp only at HTL HN;clear hst hr hsp;generalize haX:(⟨xkind,xA,xB,xC,xK,xS,xT,xcp,xcc,xch,xsp,xsc,xspn⟩:Ac)=aX at HN hcs;clear haX;go_upto_region 11 with (first|(go_at_call 30;(with_reducible refine Does.use hO (HDD) tk_ (du_ ?_);clear hO;(try clear hf);intro x9 w9 hO hf))|(refine sq_ ?_;clear hO;(try clear hf);intro w9 hO hf))
         obtain ⟨ga,hg9⟩:=(hO.pick (r:=Var _ [.string xkind,.int .i64 xA,.int .i64 xB,.int .i64 xC,.int .u64 xK,.string xS,.string xT,.slice xcp xch.length xcc,.slice xsp xspn.length xsc] 39) pk_).named;rw [←hg9];rw [←hg9] at hO;clear hg9;(replace hf:=fa_ hO);replace hO:=hO.nvTake (D:=q.D) (n:=n) hs4 pk_;rw [hD] at hO;replace hO:=hO.nvOpen;(replace hf:=fa_ hO);(refine rg_ hO ((0,0)::(0,1)::(0,2)::(0,3)::(1,4)::(1,5)::(4,6)::(5,7)::(0,8)::(0,9)::(5,10)::[]) ?_;clear hO;intro w9 hO;replace hf:=fa_ hO;(repeat (first|(apply zAG _ rfl rfl rfl;focus (intro w8 K8 hK8;(repeat (first | go_skip | go_guarded | go_step));exact hK8))|(apply zAJ _ rfl rfl rfl;focus (intro w8 hx8 K8 hK8;have hO:=hO.ext hx8;(replace hf:=fa_ hO);(obtain ⟨c0,c1,c2,c3⟩:=zBS (s:=s) (hO.factOf (r:=Var g (nowF _) 203) pk_) hs4;(try simp only [zB6,zB5,zB7] at c0 c1 c2 c3);dsimp only [nvQ,NV.done] at c0 c1 c2 c3);(repeat (first | go_skip | go_guarded | go_step));exact hK8))|(apply zAL _ rfl;(focus (intro w8 hx8 K8 hK8;have hO:=hO.ext hx8;(replace hf:=fa_ hO);(repeat (first | go_skip | go_guarded | go_step | fail));(first | exact xt_ | exact hK8 _ xt_)));(focus (exact rfl));intro w8 hx8;replace hO:=hO.ext hx8;clear hx8;(replace hf:=fa_ hO)))));(refine zBt rfl ?_;intro K8 hK8;(repeat (first | go_skip | go_guarded | go_step));refine hK8 _ _ xt_ ?_;clear hK8 K8;with_reducible refine zAV hO ?_;clear hO;intro w9 hO;(replace hf:=fa_ hO));(refine ss_ hO ?_;clear hO;(try clear hf);intro w9 hO hf);(refine zAE rfl ?_;intro K8 hK8;refine zAH (e:=39) (size:=9) (xs:=_) (news:=[.string xkind,.int .i64 xA,.int .i64 xB,.int .i64 xC,.int .u64 xK,.string xS,.string xT,.slice xcp xch.length xcc,.slice xsp xspn.length xsc]) hO pk_ pk_ rfl (.tmp 43) (.tmp 45) 22 rfl iA _ 128 Tryz.underlying22 hiA hzA hsA hbA rfl (by omega) rfl _ _ rfl rfl (by repeat (first | exact zAp | refine zAf rfl ?_)) (by unfold maxLen;omega) (by omega) ?_;clear hO;intro ka9 kc9 w9 hO;(replace hf:=fa_ hO);go_step;refine hK8 _ _ trivial ?_;clear hK8 K8);(repeat (first|(apply zAG _ rfl rfl rfl;focus (intro w8 K8 hK8;(repeat (first | go_skip | go_guarded | go_step));exact hK8))|(apply zAJ _ rfl rfl rfl;focus (intro w8 hx8 K8 hK8;have hO:=hO.ext hx8;(replace hf:=fa_ hO);(obtain ⟨c0,c1,c2,c3⟩:=zBS (s:=s) (hO.factOf (r:=Var g (nowF _) 203) pk_) hs4;(try simp only [zB6,zB5,zB7] at c0 c1 c2 c3);dsimp only [nvQ,NV.done] at c0 c1 c2 c3);(repeat (first | go_skip | go_guarded | go_step));exact hK8))|(apply zAL _ rfl;(focus (intro w8 hx8 K8 hK8;have hO:=hO.ext hx8;(replace hf:=fa_ hO);(repeat (first | go_skip | go_guarded | go_step | fail));(first | exact xt_ | exact hK8 _ xt_)));(focus (exact rfl));intro w8 hx8;replace hO:=hO.ext hx8;clear hx8;(replace hf:=fa_ hO))));(obtain ⟨c0,c1,c2,c3⟩:=zBS (s:=s) (hO.factOf (r:=Var g (nowF _) 203) pk_) hs4;(try simp only [zB6,zB5,zB7] at c0 c1 c2 c3);dsimp only [nvQ,NV.done] at c0 c1 c2 c3);(refine zAE rfl ?_;intro K8 hK8;(repeat (first | go_skip | go_guarded | go_step));refine hK8 _ _ trivial ?_;clear hK8 K8;with_reducible apply zA0;(focus (exact st_ hO));clear hO;intro w9 hO;(try dsimp only [List.set] at hO);(replace hf:=fa_ hO));clear c0 c1 c2 c3;rw [now2 _ hs4] at hO;(replace hf:=fa_ hO);refine zAA ?_;go_upto_region 12 with (first|(refine sq_ ?_;clear hO;(try clear hf);intro w9 hO hf))
         refine zDf (fun w8=>Own S W w8 (Var ga [.string xkind,.int .i64 xA,.int .i64 xB,.int .i64 xC,.int .u64 xK,.string xS,.string xT,.slice xcp xch.length xcc,.slice xsp xspn.length xsc] 39::L0)) (fun _ _ h hx=>h.ext hx) (hO.cut sb_) [0,1,2,3,5,10,11,1006]
          (.pure 0 <| .pure 1 <| .pure 2 <| .pure 3 <| .pure 5 <| .see 6 <| .fork 4 (.one 7 <| .one 8 <| .one 9 <| .pure 10 <| .pure 11 <| .one 12 .done) 7 (.fork 4 (.one 8 <| .one 9 <| .pure 10 <| .pure 11 <| .one 12 .done) 8 (.one 4 <| .one 9 <| .pure 10 <| .pure 11 <| .one 12 .done))) (by kernel_rfl) (by kernel_rfl) (fun _ _ d _ _ h=>by cases d<;>exact h) ?_
         intro w9 hx9;replace hO:=hO.ext hx9;clear hx9;(replace hf:=fa_ hO);(repeat (first|(apply zBB _ rfl rfl rfl;focus (intro w8 K8 hK8;(repeat (first | go_skip | go_guarded | go_step));exact hK8))|(apply zBu _ rfl rfl rfl;focus (intro w8 hI8 K8 hK8;(try clear hf);have hf:=hI8.facts;(try simp only [FZ,Nat.reduceAdd] at hf);(repeat (first | go_skip | go_guarded | go_step));exact hK8))));refine zDd rfl rfl ?_ ?_
         ·(intro K8 hK8;(obtain ⟨c0,c1,c2,c3⟩:=zBS (s:=s) (hO.factOf (r:=Var g (nowF _) 203) pk_) hs4;(try simp only [zB6,zB5,zB7] at c0 c1 c2 c3);dsimp only [nvQ,NV.done] at c0 c1 c2 c3);(repeat (first | go_skip | go_guarded | go_step));refine hK8 _ _ (hO.cut sb_) ?_;clear hK8 K8 c0 c1 c2 c3);refine zAo rfl ?_;(intro K8 hK8;(repeat (first | go_skip | go_guarded | go_step));(go_at_call 54;(with_reducible apply Does.use hO (HTL);exact tk_;refine du_ ?_;clear hO;(try clear hf);intro x9 w9 hO hf));(repeat go_step);refine hK8 _ _ (hO.cut sb_) ?_;clear hK8 K8);refine zAo rfl ?_;(intro K8 hK8;(repeat (first | go_skip | go_guarded | go_step));refine hK8 _ _ ((hO.alloc _ _).cut sb_) ?_;clear hK8 K8;with_reducible refine zAz hO ?_;clear hO;intro w9 hO;(replace hf:=fa_ hO));refine zAo rfl ?_;(intro K8 hK8;(refine zAH (e:=9) (size:=1) (xs:=_) (news:=[.string tx]) hO pk_ pk_ rfl (.tmp 53) (.tmp 57) 69 rfl iS _ 16 Tryz.underlying69 hiS hzS hsS hbS rfl (by omega) rfl _ _ rfl rfl (by repeat (first | exact zAp | refine zAf rfl ?_)) (by unfold maxLen;omega) (by omega) ?_;clear hO;intro kb9 kd9 w9 hO;(replace hf:=fa_ hO));go_step;refine hK8 _ _ (hO.cut sb_) ?_;clear hK8 K8);(repeat (first|(apply zBB _ rfl rfl rfl;focus (intro w8 K8 hK8;(repeat (first | go_skip | go_guarded | go_step));exact hK8))|(apply zBu _ rfl rfl rfl;focus (intro w8 hI8 K8 hK8;(try clear hf);have hf:=hI8.facts;(try simp only [FZ,Nat.reduceAdd] at hf);(repeat (first | go_skip | go_guarded | go_step));exact hK8))));refine zAo rfl ?_;(intro K8 hK8;(obtain ⟨c0,c1,c2,c3⟩:=zBS (s:=s) (hO.factOf (r:=Var g (nowF _) 203) pk_) hs4;(try simp only [zB6,zB5,zB7] at c0 c1 c2 c3);dsimp only [nvQ,NV.done] at c0 c1 c2 c3);(repeat (first | go_skip | go_guarded | go_step));(apply zGE (G:=K8 _ _));(focus (exact st_ hO));clear hO c0 c1 c2 c3;intro w9 hO;(replace hf:=fa_ hO);refine hK8 _ _ (hO.cut sb_) ?_;clear hK8 K8);(repeat (first|(apply zBB _ rfl rfl rfl;focus (intro w8 K8 hK8;(repeat (first | go_skip | go_guarded | go_step));exact hK8))|(apply zBu _ rfl rfl rfl;focus (intro w8 hI8 K8 hK8;(try clear hf);have hf:=hI8.facts;(try simp only [FZ,Nat.reduceAdd] at hf);(repeat (first | go_skip | go_guarded | go_step));exact hK8))));refine zBV ?_;go_wp2_with (refine sq_ ?_;clear hO;(try clear hf);intro w9 hO hf);all_goals try (exfalso;omega;done)
          rw [now3 _ hs4,zLL n s _ _ _ _ (aX,tx)] at hO;replace hO:=hO.pick (r:=NvBut q.D n s) pk_;replace hO:=Own.nvGive (hO.nvShut (x:=aX) (tx:=tx) (v:=n s) (y.1,⟨y.2.since,C',R'⟩) hcs (l':=NvBut q.D n s::_) (by repeat (first | with_reducible exact Takes.nil _ | with_reducible apply Takes.cons | with_reducible exact Pick.here _ _ | with_reducible apply Pick.there))) hs4;exact ⟨⟨i+1,_,_,oa,oc,dl,rfl,by go_num,by omega,Lib.hid (HN.out _ _ _ _),(by simp only [PS.act];exact hO.cut sb_)⟩,by simp [intOf];omega⟩
         ·(intro K8 hK8;(repeat (first | go_skip | go_guarded | go_step));(go_at_call 54;(with_reducible apply Does.use hO (HTL);exact tk_;refine du_ ?_;clear hO;(try clear hf);intro x9 w9 hO hf));(repeat go_step);refine hK8 _ _ (hO.cut sb_) ?_;clear hK8 K8);refine zDd rfl rfl ?_ ?_
          ·(intro K8 hK8;(obtain ⟨c0,c1,c2,c3⟩:=zBS (s:=s) (hO.factOf (r:=Var g (nowF _) 203) pk_) hs4;(try simp only [zB6,zB5,zB7] at c0 c1 c2 c3);dsimp only [nvQ,NV.done] at c0 c1 c2 c3);(repeat (first | go_skip | go_guarded | go_step));refine hK8 _ _ (hO.cut sb_) ?_;clear hK8 K8 c0 c1 c2 c3);refine zAo rfl ?_;(intro K8 hK8;(repeat (first | go_skip | go_guarded | go_step));refine hK8 _ _ ((hO.alloc _ _).cut sb_) ?_;clear hK8 K8;with_reducible refine zAz hO ?_;clear hO;intro w9 hO;(replace hf:=fa_ hO));refine zAo rfl ?_;(intro K8 hK8;(refine zAH (e:=9) (size:=1) (xs:=_) (news:=[.string tx]) hO pk_ pk_ rfl (.tmp 53) (.tmp 57) 69 rfl iS _ 16 Tryz.underlying69 hiS hzS hsS hbS rfl (by omega) rfl _ _ rfl rfl (by repeat (first | exact zAp | refine zAf rfl ?_)) (by unfold maxLen;omega) (by omega) ?_;clear hO;intro kb9 kd9 w9 hO;(replace hf:=fa_ hO));go_step;refine hK8 _ _ (hO.cut sb_) ?_;clear hK8 K8);(repeat (first|(apply zBB _ rfl rfl rfl;focus (intro w8 K8 hK8;(repeat (first | go_skip | go_guarded | go_step));exact hK8))|(apply zBu _ rfl rfl rfl;focus (intro w8 hI8 K8 hK8;(try clear hf);have hf:=hI8.facts;(try simp only [FZ,Nat.reduceAdd] at hf);(repeat (first | go_skip | go_guarded | go_step));exact hK8))));refine zAo rfl ?_;(intro K8 hK8;(obtain ⟨c0,c1,c2,c3⟩:=zBS (s:=s) (hO.factOf (r:=Var g (nowF _) 203) pk_) hs4;(try simp only [zB6,zB5,zB7] at c0 c1 c2 c3);dsimp only [nvQ,NV.done] at c0 c1 c2 c3);(repeat (first | go_skip | go_guarded | go_step));(apply zGE (G:=K8 _ _));(focus (exact st_ hO));clear hO c0 c1 c2 c3;intro w9 hO;(replace hf:=fa_ hO);refine hK8 _ _ (hO.cut sb_) ?_;clear hK8 K8);(repeat (first|(apply zBB _ rfl rfl rfl;focus (intro w8 K8 hK8;(repeat (first | go_skip | go_guarded | go_step));exact hK8))|(apply zBu _ rfl rfl rfl;focus (intro w8 hI8 K8 hK8;(try clear hf);have hf:=hI8.facts;(try simp only [FZ,Nat.reduceAdd] at hf);(repeat (first | go_skip | go_guarded | go_step));exact hK8))));refine zBV ?_;go_wp2_with (refine sq_ ?_;clear hO;(try clear hf);intro w9 hO hf);all_goals try (exfalso;omega;done)
           rw [now3 _ hs4,zLL n s _ _ _ _ (aX,tx)] at hO;replace hO:=hO.pick (r:=NvBut q.D n s) pk_;replace hO:=Own.nvGive (hO.nvShut (x:=aX) (tx:=tx) (v:=n s) (y.1,⟨y.2.since,C',R'⟩) hcs (l':=NvBut q.D n s::_) (by repeat (first | with_reducible exact Takes.nil _ | with_reducible apply Takes.cons | with_reducible exact Pick.here _ _ | with_reducible apply Pick.there))) hs4;exact ⟨⟨i+1,_,_,oa,oc,dl,rfl,by go_num,by omega,Lib.hid (HN.out _ _ _ _),(by simp only [PS.act];exact hO.cut sb_)⟩,by simp [intOf];omega⟩
          ·(intro K8 hK8;(repeat (first | go_skip | go_guarded | go_step));refine hK8 _ _ ((hO.alloc _ _).cut sb_) ?_;clear hK8 K8;with_reducible refine zAz hO ?_;clear hO;intro w9 hO;(replace hf:=fa_ hO));refine zAo rfl ?_;(intro K8 hK8;(obtain ⟨c0,c1,c2,c3⟩:=zBS (s:=s) (hO.factOf (r:=Var g (nowF _) 203) pk_) hs4;(try simp only [zB6,zB5,zB7] at c0 c1 c2 c3);dsimp only [nvQ,NV.done] at c0 c1 c2 c3);(repeat (first | go_skip | go_guarded | go_step));refine hK8 _ _ (hO.cut sb_) ?_;clear hK8 K8 c0 c1 c2 c3);refine zAo rfl ?_;(intro K8 hK8;(refine zAH (e:=9) (size:=1) (xs:=_) (news:=[.string tx]) hO pk_ pk_ rfl (.tmp 53) (.tmp 57) 69 rfl iS _ 16 Tryz.underlying69 hiS hzS hsS hbS rfl (by omega) rfl _ _ rfl rfl (by repeat (first | exact zAp | refine zAf rfl ?_)) (by unfold maxLen;omega) (by omega) ?_;clear hO;intro kb9 kd9 w9 hO;(replace hf:=fa_ hO));go_step;refine hK8 _ _ (hO.cut sb_) ?_;clear hK8 K8);(repeat (first|(apply zBB _ rfl rfl rfl;focus (intro w8 K8 hK8;(repeat (first | go_skip | go_guarded | go_step));exact hK8))|(apply zBu _ rfl rfl rfl;focus (intro w8 hI8 K8 hK8;(try clear hf);have hf:=hI8.facts;(try simp only [FZ,Nat.reduceAdd] at hf);(repeat (first | go_skip | go_guarded | go_step));exact hK8))));refine zAo rfl ?_;(intro K8 hK8;(obtain ⟨c0,c1,c2,c3⟩:=zBS (s:=s) (hO.factOf (r:=Var g (nowF _) 203) pk_) hs4;(try simp only [zB6,zB5,zB7] at c0 c1 c2 c3);dsimp only [nvQ,NV.done] at c0 c1 c2 c3);(repeat (first | go_skip | go_guarded | go_step));(apply zGE (G:=K8 _ _));(focus (exact st_ hO));clear hO c0 c1 c2 c3;intro w9 hO;(replace hf:=fa_ hO);refine hK8 _ _ (hO.cut sb_) ?_;clear hK8 K8);(repeat (first|(apply zBB _ rfl rfl rfl;focus (intro w8 K8 hK8;(repeat (first | go_skip | go_guarded | go_step));exact hK8))|(apply zBu _ rfl rfl rfl;focus (intro w8 hI8 K8 hK8;(try clear hf);have hf:=hI8.facts;(try simp only [FZ,Nat.reduceAdd] at hf);(repeat (first | go_skip | go_guarded | go_step));exact hK8))));refine zBV ?_;go_wp2_with (refine sq_ ?_;clear hO;(try clear hf);intro w9 hO hf);all_goals try (exfalso;omega;done)
           rw [now3 _ hs4,zLL n s _ _ _ _ (aX,tx)] at hO;replace hO:=hO.pick (r:=NvBut q.D n s) pk_;replace hO:=Own.nvGive (hO.nvShut (x:=aX) (tx:=tx) (v:=n s) (y.1,⟨y.2.since,C',R'⟩) hcs (l':=NvBut q.D n s::_) (by repeat (first | with_reducible exact Takes.nil _ | with_reducible apply Takes.cons | with_reducible exact Pick.here _ _ | with_reducible apply Pick.there))) hs4;exact ⟨⟨i+1,_,_,oa,oc,dl,rfl,by go_num,by omega,Lib.hid (HN.out _ _ _ _),(by simp only [PS.act];exact hO.cut sb_)⟩,by simp [intOf];omega⟩
  ·obtain rfl:i=l.length:=by omega
   go_wp2_with (refine sq_ ?_;clear hO;(try clear hf);intro w9 hO hf);all_goals try (exfalso;omega;done)
   go_ret;rw [List.take_length] at HR;refine ⟨⟨q,oa,oc,dl,HR,HOUT⟩,rfl,?_⟩;dsimp only;(try simp only [CA]);replace hO:=hO.rowImm (a:=oa) (n:=dl.length) (c:=oc) (xs:=dl.flatMap nvC) pk_;replace hO:=(hO.pick (r:=.imm fun w=>LibOk w∧ActsAt w aa l) pk_).imp (ψ:=fun w=>ActsAt w aa l) fun _ h=>h.2
   exact hO.cut sb_
def TaArg (aa:Option Addr) (l:List Ac) (w:World):Prop:=LibOk w∧ActsAt w aa l
theorem TaArg.base {aa:Option Addr} {l:List Ac} {w:World} (h:TaArg aa l w):Own (fun _=>False) w w [.imm LibOk,.imm (fun w=>ActsAt w aa l),.imm (TaArg aa l)]:=by
 have h0:Own (fun _=>False) w w [.imm (TaArg aa l)]:=Own.base w _ fun w' hw'=>⟨h.1.up hw',h.2.up (zEw hw')⟩
 exact ((h0.again.imp fun _ h=>h.2:Own _ _ _ [.imm (fun w=>ActsAt w aa l),.imm (TaArg aa l)]).pick (.there _ (.here _ _))).again.imp (ψ:=LibOk) (fun _ h=>h.1) |>.cut sb_
theorem PSOk.start {m:Nat} (h1:4≤m) (h2:m≤150):PSOk m 0 ⟨Core.new (newD (m+50)) newH [] [] 0,fun _=>none,fun _=>[],[]⟩:=
 ⟨CoreOk.start h1 h2,fun i hi x hx=>(by cases hx),rfl⟩
theorem CoreOk.len40 {m B:Nat} {c:Core} (H:CoreOk m B c):(c.at c.nn).length≤40:=by rw [H.now];exact H.up.st.now.len
theorem zCi {l:List Ac} {k:Nat} (h:zAT l k=true):l.length≤k∧∀x∈l,x.s.size≤120∧x.t.size≤100:=
 ⟨zK2 h,fun x hx=>⟨(zGs h hx).1,(zGs h hx).2.1⟩⟩
theorem zPH (e:Nat) (n:Int) (k:Nat) (r:Rs) (hk:k≠0) (HDE:Does Tryz.prog 30 #[.pointer (some ⟨e,0,none⟩),.int .i64 n] [r] (fun _:Unit=>(.tuple #[.pointer none,errV k],[r]))) :
 Does Tryz.prog 22 #[.pointer (some ⟨e,0,none⟩),.int .i64 n] [r] (fun _:Unit=>(.tuple #[.int .i64 0,errV k],[r])):=by
 rw [show errV k=.iface 124 (.int .i64 k) from if_neg hk] at HDE ⊢;intro S W w L0 hO;simp only [CA] at hO;(replace hf:=fa_ hO);go_enter Tryz.func22,Tryz.ntmps22;go_wp2_with (first|(go_at_call 30;(with_reducible refine Does.use hO (HDE) tk_ (du_ ?_);clear hO hf;intro x9 w9 hO hf))|(refine sq_ ?_;clear hO hf;intro w9 hO hf));all_goals try (exfalso;omega;done)
 go_ret2;refine ⟨(),rfl,?_⟩;dsimp only;(try simp only [CA]);exact hO.cut sb_
theorem PRun.none_ {m B:Nat} {p q:PS} {l:List Ac} (h:PRun m B p l q) (hl:l=[]):q=p:=by
 cases h with
 | nil=>rfl
 | snoc a h1 h2=>simp at hl
theorem PRun.last {m B:Nat} {p q:PS} {l k:List Ac} {x:Ac} (h:PRun m B p l q) (hl:l=k++[x]):∃q',PRun m B p k q'∧PStep m (B+k.length) q' x q:=by
 cases h with
 | nil=>simp at hl
 | snoc a h1 h2=>
  obtain ⟨rfl,h5⟩:=List.append_inj' hl rfl;cases h5;exact ⟨_,h1,h2⟩
theorem PRun.one {m B:Nat} {p q:PS} {x:Ac} (h:PRun m B p [x] q):PStep m B p x q:=by
 obtain ⟨q',h1,h2⟩:=h.last (k:=[]) rfl;rw [h1.none_ rfl] at h2;exact h2
theorem PStep.stays {m B:Nat} {p q:PS} {x:Ac} (h:PStep m B p x q) (hk:x.kind.toList≠[99,111,109,109,105,116]):q.c.nn=p.c.nn∧q.c.at q.c.nn=p.c.at p.c.nn:=by
 cases h with
 | beg r h1 h2=>exact ⟨rfl,rfl⟩
 | same=>exact ⟨rfl,rfl⟩
 | com y n c' D' h1=>exact absurd h1 hk
 | comno y n k c' D' h1=>exact absurd h1 hk
 | ab y h1 h2=>exact ⟨rfl,rfl⟩
 | vac h1=>exact ⟨rfl,rfl⟩
 | save c' h1 h2=>
  obtain ⟨d,h,R0,W0,u,rfl,_⟩:=h2;exact ⟨rfl,rfl⟩
 | told y res h1 h2=>exact ⟨rfl,rfl⟩
theorem ComOk.same {m B:Nat} {c:Core} {D:Nat→Option (Nat×Dv)} {i:Nat} {x:Dv} {n k:Nat} {c':Core} {D':Nat→Option (Nat×Dv)} (h:ComOk m B c D i x n k c' D') (hk:k≠0) (h10:k≠10):c'=c:=by
 cases h with
 | none h1=>exact absurd rfl hk
 | late h1 h2=>rfl
 | full h1 h2 h3 h4=>rfl
 | done d h R0 W0 u h1 h2 h3 h4 h5=>exact absurd rfl hk
 | down c' h1 h2 h3 h4=>exact absurd rfl h10
theorem zPv {m B:Nat} {c:Core} (H:CoreOk m B c) (R:List Sp):zBY c.keys R c.nn=true:=by
 unfold zBY;rw [List.drop_eq_nil_of_le (by rw [H.kl];omega)];rfl
