/- Texts TopBlind of this claim, laid together. -/
import Derived.Test.YtagcmjmcjpjihaaGreatDoorHC39
import Derived.Test.YtagcmjmcjpjihaaGreatDoorHBl3
set_option linter.unusedVariables false
set_option linter.unusedSimpArgs false
set_option linter.unnecessarySimpa false
set_option maxHeartbeats 8000000
set_option maxRecDepth 100000
namespace Go.Proofs.YtagcmjmcjpjihaaGreatDoor
open Go.RowKit Go.Lib
theorem zMS (aa:Option Addr) (ac:Nat) (l:List Ac) (key a b:ByteArray) (W:World) (hφ:TaArg aa l W) (hn:l.length≤9223372036854775807) :
 Calls Tryz.prog 9 #[.slice aa l.length ac,.string key,.string a,.string b] W fun e w'=>e=.returned (.bool true)∧Ext W w':=by
 have hO:=hφ.base;have HG:=fun w (h:TaArg aa l w)=>zEL w h.1
 have HL:∀w,TaArg aa l w→Calls Tryz.prog 16 #[.slice aa l.length ac,.int .i64 40] w fun e w'=>e=.returned (.bool (zAT l 40))∧w'=w:=fun w hA=>zBv aa ac l 40 w (by unfold maxLen;omega) (by omega) hA.2
 have HS:=zCX 70 (by omega) (by omega);rw [show ((70:Nat):Int)+50=120 from rfl] at HS;(replace hf:=fa_ hO);go_enter Tryz.func9,Tryz.ntmps9;cases hli:zAT l 40 with
 | false=>
  rw [hli] at HL;go_wp2_with (first|(go_at_call 42;(with_reducible apply Calls.mono (HG _ (Own.immOf (φ:=TaArg aa l) hO pk_));refine cu_ ?_;clear hO;(try clear hf);intro w8 hO hf))|(go_at_call 16;(with_reducible apply Calls.mono (HL _ (Own.immOf (φ:=TaArg aa l) hO pk_));rintro e8 w8 ⟨rfl,rfl⟩;dsimp only))|(refine sq_ ?_;clear hO;(try clear hf);intro w9 hO hf));go_ret;exact ⟨rfl,hO.toExt⟩
 | true=>
 rw [hli] at HL;by_cases hsz:key.size≤60∧a.size≤40∧b.size≤40
 case neg=>
  go_wp2_with (first|(go_at_call 42;(with_reducible apply Calls.mono (HG _ (Own.immOf (φ:=TaArg aa l) hO pk_));refine cu_ ?_;clear hO;(try clear hf);intro w8 hO hf))|(go_at_call 16;(with_reducible apply Calls.mono (HL _ (Own.immOf (φ:=TaArg aa l) hO pk_));rintro e8 w8 ⟨rfl,rfl⟩;dsimp only))|(refine sq_ ?_;clear hO;(try clear hf);intro w9 hO hf));all_goals try (exfalso;omega;done)
  all_goals
   go_ret;exact ⟨rfl,hO.toExt⟩
 obtain ⟨hk60,ha40,hb40⟩:=hsz;have HKF:=fun w=>zMk key w (by omega)
 by_cases hok:KeyOk key
 case neg=>
  rw [zA6 hok] at HKF;simp only [show ((3:Nat):Int)=3 from rfl] at HKF;go_wp2_with (first|(go_at_call 42;(with_reducible apply Calls.mono (HG _ (Own.immOf (φ:=TaArg aa l) hO pk_));refine cu_ ?_;clear hO;(try clear hf);intro w8 hO hf))|(go_at_call 16;(with_reducible apply Calls.mono (HL _ (Own.immOf (φ:=TaArg aa l) hO pk_));rintro e8 w8 ⟨rfl,rfl⟩;dsimp only))|(go_at_call 57;(with_reducible apply Calls.mono (HKF _);rintro e8 w8 ⟨rfl,rfl⟩;dsimp only))|(refine sq_ ?_;clear hO;(try clear hf);intro w9 hO hf));all_goals try (exfalso;omega;done)
  go_ret;exact ⟨rfl,hO.toExt⟩
 rw [zCc hok] at HKF;simp only [show ((0:Nat):Int)=0 from rfl] at HKF;obtain ⟨h40,hlt⟩:=zCi hli;have H0:=PSOk.start (m:=70) (by omega) (by omega);obtain ⟨f1,f2,f3,f4,f5⟩:=zCo 70;obtain ⟨c0,hc⟩:∃c,c=Core.new (newD (70+50)) newH [] [] 0:=⟨_,rfl⟩
 rw [←hc] at HS H0 f3;rw [←f3] at HS;clear hc f1 f2 f3 f4 f5;have HP:=fun e p=>zDa e p 70 0 c0 (fun _=>none) aa ac l H0 (by omega) hlt
 go_wp2_with (first|(go_at_call 42;(with_reducible apply Calls.mono (HG _ (Own.immOf (φ:=TaArg aa l) hO pk_));refine cu_ ?_;clear hO;(try clear hf);intro w8 hO hf))|(go_at_call 16;(with_reducible apply Calls.mono (HL _ (Own.immOf (φ:=TaArg aa l) hO pk_));rintro e8 w8 ⟨rfl,rfl⟩;dsimp only))|(go_at_call 57;(with_reducible apply Calls.mono (HKF _);rintro e8 w8 ⟨rfl,rfl⟩;dsimp only))|(go_at_call 17;(with_reducible refine Does.use hO (HS) tk_ (du_ ?_);clear hO;(try clear hf);intro x9 w9 hO hf;(obtain ⟨p,e⟩:=x9;dsimp only at hO ⊢;(replace hf:=fa_ hO))))|(go_at_call 53;(with_reducible refine Does.use hO (HP _ _) tk_ (du_ ?_);clear hO;(try clear hf);intro x9 w9 hO hf;(obtain ⟨q,oa,oc,dl,run,out⟩:=x9;dsimp only at hO ⊢;(replace hf:=fa_ hO))))|(refine sq_ ?_;clear hO;(try clear hf);intro w9 hO hf));have HQ:=Lib.hid (run.ok H0 (by omega));clear run out HL HKF HP HS;have hO9:Own (fun _=>False) W _ [EngR e p 70 q.c q.D,zAC p q.c.d,.imm LibOk]:=hO.cut sb_;clear hO hf;go_loopw [12] (fun v9 wr=>∃(s:Nat) (D:Nat→Option (Nat×Dv)),v9=.int .i64 (s:Int)∧s≤4∧Hid (∀t<s,D t=none)∧Own (fun _=>False) W wr [EngR e p 70 q.c D,zAC p q.c.d,.imm LibOk]) (fun v _=>5-(intOf v).toNat)
 case atStart=>exact ⟨0,q.D,rfl,by omega,Lib.hid fun t ht=>by omega,hO9⟩
 case round=>
  clear hO9;obtain ⟨s,D,rfl,hs4,HD,hO⟩:=hrel;rename World=>w1
  (replace hf:=fa_ hO);by_cases hlt4:s<4
  ·skip;cases hD:D s with
   | none=>
    have HAB:=zE6 e (s:Int) 7 (EngR e p 70 q.c D) (by omega) (zCg e p 70 q.c D s (by omega) hD);simp only [show errV 7=.iface 124 (.int .i64 7) from rfl] at HAB;go_wp2_with (first|(go_at_call 24;(with_reducible refine Does.use hO (HAB) tk_ (du_ ?_);clear hO;(try clear hf);intro x9 w9 hO hf))|(refine sq_ ?_;clear hO;(try clear hf);intro w9 hO hf));all_goals try (exfalso;omega;done)
    exact ⟨⟨s+1,D,by go_num,by omega,Lib.hid (fun t ht=>(Nat.lt_or_ge t s).elim (HD.out t) fun h=>(show t=s by omega) ▸ hD),hO.cut sb_⟩,by simp [intOf];omega⟩
   | some y=>
    have HAB:=zE5 e p 70 q.c D s (by omega) y hD;go_wp2_with (first|(go_at_call 24;(with_reducible refine Does.use hO (HAB) tk_ (du_ ?_);clear hO;(try clear hf);intro x9 w9 hO hf))|(refine sq_ ?_;clear hO;(try clear hf);intro w9 hO hf));all_goals try (exfalso;omega;done)
    exact ⟨⟨s+1,setF D s none,by go_num,by omega,Lib.hid (fun t ht=>by unfold setF;exact (Decidable.em (t=s)).elim (fun h=>if_pos h) fun h=>(if_neg h).trans (HD.out t (by omega))),hO.cut sb_⟩,by simp [intOf];omega⟩
  ·obtain rfl:s=4:=by omega
   have HC:=Lib.hid (HQ.out.c.more (B':=0+l.length) (Nat.le_refl _) (by omega));have HF:=Lib.hid HQ.out.f;have HFR:=Lib.hid HC.out.fresh;have hca:chN ⟨key,a,false⟩=0:=zJf hok ha40;have hcb:chN ⟨key,b,false⟩=0:=zJf hok hb40;clear HQ;go_wp2_with (refine sq_ ?_;clear hO;(try clear hf);intro w9 hO hf);obtain ⟨g,hg9⟩:=(hO.pick (r:=Var _ [.string a,.string b] 9) pk_).named;rw [←hg9];rw [←hg9] at hO;clear hg9;have hO9:Own (fun _=>False) W _ [Var g [.string a,.string b] 9,EngR e p 70 q.c D,zAC p q.c.d,.imm LibOk]:=hO.cut sb_;clear hO hf;have HB0:=Lib.hid (show BeF q.c D 0 from ⟨fun t _ ht=>by omega,fun t ht _=>HD.out t (by omega)⟩);clear HD;rename World=>w2
   generalize D=D0 at *;go_loopw [14] (fun v9 wr=>∃(s:Nat) (D:Nat→Option (Nat×Dv)),v9=.int .i64 (s:Int)∧s≤2∧Hid (BeF q.c D s)∧Own (fun _=>False) W wr [Var g [.string a,.string b] 9,EngR e p 70 q.c D,zAC p q.c.d,.imm LibOk]) (fun v _=>3-(intOf v).toNat)
   case atStart=>exact ⟨0,D0,rfl,by omega,HB0,hO9⟩
   case round=>
    clear hO9 HB0;obtain ⟨s,D,rfl,hs2,HD,hO⟩:=hrel;rename World=>w3
    (replace hf:=fa_ hO);by_cases hlt2:s<2
    ·have HB:=zDU e p 70 q.c D s (by omega) (HD.out.2 s hlt2 (Nat.le_refl _));go_wp2_with (first|(go_at_call 20;(with_reducible refine Does.use hO (HB) tk_ (du_ ?_);clear hO;(try clear hf);intro x9 w9 hO hf;rename Nat=>z))|(refine sq_ ?_;clear hO;(try clear hf);intro w9 hO hf));all_goals try (exfalso;omega;done)
     exact ⟨⟨s+1,_,by go_num,by omega,Lib.hid (HD.out.step z),hO.cut sb_⟩,by simp [intOf];omega⟩
    ·obtain rfl:s=2:=by omega
     obtain ⟨v,hv⟩:∃v:Nat→ByteArray,v=fun t=>if t=0 then a else b:=⟨_,rfl⟩
     have HB0:=Lib.hid (show BlF q.c key v D 0 from ⟨fun t _ ht=>by omega,fun t ht _=>HD.out.1 t ht ht⟩);have hv0:v 0=a:=by rw [hv];rfl
     have hv1:v 1=b:=by rw [hv];rfl
     have HV:=Lib.hid (show v 0=a∧v 1=b from ⟨hv0,hv1⟩);clear HD hv hv0 hv1;go_wp2_with (refine sq_ ?_;clear hO;(try clear hf);intro w9 hO hf);have hO9:Own (fun _=>False) W _ [Var g [.string a,.string b] 9,EngR e p 70 q.c D,zAC p q.c.d,.imm LibOk]:=hO.cut sb_;clear hO hf;generalize D=D1 at *;go_loopw [15] (fun v9 wr=>∃(s:Nat) (D:Nat→Option (Nat×Dv)),v9=.int .i64 (s:Int)∧s≤2∧Hid (BlF q.c key v D s)∧Own (fun _=>False) W wr [Var g [.string a,.string b] 9,EngR e p 70 q.c D,zAC p q.c.d,.imm LibOk]) (fun v _=>3-(intOf v).toNat)
     case atStart=>exact ⟨0,D1,rfl,by omega,HB0,hO9⟩
     case round=>
      clear hO9 HB0;obtain ⟨s,D,rfl,hs2,HD,hO⟩:=hrel;rename World=>w4
      (replace hf:=fa_ hO);by_cases hlt2:s<2
      ·obtain ⟨z,hz⟩:=HD.out.2 s hlt2 (Nat.le_refl _);have HN:=Lib.hid (HD.out.step z);have HDD:=zCZ e p 70 q.c D s (by omega) (z,⟨q.c.nn,[],[]⟩) hz;obtain ⟨hv0,hv1⟩:=HV.out;rcases (show s=0∨s=1 by omega) with rfl | rfl
       ·have HPT:=zGS (e:=e) (p:=p) (m:=70) (φ:=LibOk) (by omega) hz HFR.out key a (by omega) (by omega) (fun _ h=>h);dsimp only at HPT;rw [(zG9 hca).1,(zG9 hca).2,show errV 0=.nilIface from rfl] at HPT;rw [hv0] at HN;clear hv0 hv1 hz;simp only [show ((0:Nat):Int)=0 from rfl,show ((1:Nat):Int)=1 from rfl] at HDD;go_wp2_with (first|(go_at_call 30;(with_reducible refine Does.use hO (HDD) tk_ (du_ ?_);clear hO;(try clear hf);intro x9 w9 hO hf))|(go_at_call 44;(with_reducible refine Does.use hO (HPT) tk_ (du_ ?_);clear hO;(try clear hf);intro x9 w9 hO hf))|(refine sq_ ?_;clear hO;(try clear hf);intro w9 hO hf));all_goals try (exfalso;omega;done)
        exact ⟨⟨1,_,rfl,by omega,HN,hO.cut sb_⟩,by simp [intOf]⟩
       ·have HPT:=zGS (e:=e) (p:=p) (m:=70) (φ:=LibOk) (by omega) hz HFR.out key b (by omega) (by omega) (fun _ h=>h);dsimp only at HPT;rw [(zG9 hcb).1,(zG9 hcb).2,show errV 0=.nilIface from rfl] at HPT;rw [hv1] at HN;clear hv0 hv1 hz;simp only [show ((0:Nat):Int)=0 from rfl,show ((1:Nat):Int)=1 from rfl] at HDD;go_wp2_with (first|(go_at_call 30;(with_reducible refine Does.use hO (HDD) tk_ (du_ ?_);clear hO;(try clear hf);intro x9 w9 hO hf))|(go_at_call 44;(with_reducible refine Does.use hO (HPT) tk_ (du_ ?_);clear hO;(try clear hf);intro x9 w9 hO hf))|(refine sq_ ?_;clear hO;(try clear hf);intro w9 hO hf));all_goals try (exfalso;omega;done)
        exact ⟨⟨2,_,rfl,by omega,HN,hO.cut sb_⟩,by simp [intOf]⟩
      ·obtain rfl:s=2:=by omega
       obtain ⟨z0,hz0⟩:=HD.out.1 0 (by omega) (by omega);obtain ⟨z1,hz1⟩:=HD.out.1 1 (by omega) (by omega);rw [HV.out.1] at hz0;rw [HV.out.2] at hz1;have hd0:DeedOk q.c ⟨q.c.nn,[⟨key,a,false⟩],[]⟩:=⟨HFR.out.f,HFR.out.k,HFR.out.le,QInv.one hca⟩
       have hd1:DeedOk q.c ⟨q.c.nn,[⟨key,b,false⟩],[]⟩:=⟨HFR.out.f,HFR.out.k,HFR.out.le,QInv.one hcb⟩
       have HC1:=zCF e p 70 (0+l.length) q.c D HC.out (by omega) 1 (by omega) (z1,⟨q.c.nn,[⟨key,b,false⟩],[]⟩) hz1 hd1 HF.out;simp only [show ((0:Nat):Int)=0 from rfl,show ((1:Nat):Int)=1 from rfl] at HC1;have HD0:=Lib.hid hd0;have HZ0:=Lib.hid hz0;have hfa:=zHn (R:=q.c.at q.c.nn) (m:=70) hca (by omega);have hfb:=zHn (R:=q.c.at q.c.nn) (m:=70) hcb (by omega);rw [zL7 _ key a b] at hfa;have HFA:=Lib.hid hfa;have HFB:=Lib.hid hfb;have hU:RUps (q.c.at q.c.nn):=(HFR.out.qr HC.out).ups;clear HD HV hd0 hd1 hz0 hz1 hfa hfb HFR;go_upto_region 27 with (first|(go_at_call 22;(with_reducible refine Does.use hO (HC1) tk_ (du_ ?_);clear hO;(try clear hf);intro x9 w9 hO hf;(obtain ⟨n1,k1,c1,D1',ok1,_,k19,fz1⟩:=x9;dsimp only at hO ⊢;(replace hf:=fa_ hO))))|(refine sq_ ?_;clear hO;(try clear hf);intro w9 hO hf))
       cases ok1 with
       | none h1=>cases h1
       | late h1 h2=>exact absurd h2 (by dsimp only;rw [zFl];simp)
       | down c' h1 h2 h3 h4=>exact absurd HF.out h4
       | full h1 h2 h3 h4=>
        have hk8:zAl (q.c.at q.c.nn) [⟨key,b,false⟩] 70=8:=by
         have:=HFB.out;dsimp only at h3;split at this<;>omega
        have hka8:zAl (q.c.at q.c.nn) [⟨key,a,false⟩] 70=8:=by rw [HFA.out,←HFB.out];exact hk8
        (try dsimp only at hO);rw [hk8];have HC2:=zCF e p 70 (0+l.length) q.c D HC.out (by omega) 0 (by omega) (z0,⟨q.c.nn,[⟨key,a,false⟩],[]⟩) HZ0.out HD0.out HF.out;simp only [show ((0:Nat):Int)=0 from rfl,show ((1:Nat):Int)=1 from rfl] at HC2;have HN8:∀w,Calls Tryz.prog 45 #[errV 8] w fun e w'=>e=.returned (.int .i64 8)∧w'=w:=fun w=>zEZ 8 w (by omega)
        have HKA:=Lib.hid hka8;clear h1 h2 h3 h4 hk8 hka8 hU;go_upto_region 28 with (first|(go_at_call 22;(with_reducible refine Does.use hO (HC2) tk_ (du_ ?_);clear hO;(try clear hf);intro x9 w9 hO hf;(obtain ⟨n2,k2,c2,D2',ok2,_,k29,fz2⟩:=x9;dsimp only at hO ⊢;(replace hf:=fa_ hO))))|(refine sq_ ?_;clear hO;(try clear hf);intro w9 hO hf))
        cases ok2 with
        | none h1=>cases h1
        | late h1 h2=>exact absurd h2 (by dsimp only;rw [zFl];simp)
        | down c' h1 h2 h3 h4=>exact absurd HF.out h4
        | done d h R0 W0 u h1 h2 h3 h4 h5=>
         have:=HKA.out;dsimp only at h3;omega
        | full h1 h2 h3 h4=>
         (try dsimp only at hO);rw [HKA.out];simp only [show errV 8=.iface 124 (.int .i64 8) from rfl] at HN8 ⊢;go_wp2_with (first|(go_at_call 45;(with_reducible apply Calls.mono (HN8 _);rintro e8 w8 ⟨rfl,rfl⟩;dsimp only))|(refine sq_ ?_;clear hO;(try clear hf);intro w9 hO hf));all_goals try (exfalso;omega;done)
         go_ret;exact ⟨rfl,hO.toExt⟩
       | done d h R0 W0 u h1 h2 h3 h4 h5=>
        dsimp only at h3 h4 hO fz1;have hle:(appR (q.c.at q.c.nn) ⟨key,b,false⟩).length≤40:=by
         have:=HFB.out;split at this<;>omega
        obtain ⟨c1,hc1⟩:∃c1,c1=q.c.com [⟨key,b,false⟩] d h R0 W0 u (zA5 (q.c.nn+1) (setF D 1 none)):=⟨_,rfl⟩
        have hat1:c1.at c1.nn=appR (q.c.at q.c.nn) ⟨key,b,false⟩:=by rw [hc1];exact HC.out.comAt _ _ _ _ _ _ _
        have hz01:setF D 1 none 0=some (z0,⟨q.c.nn,[⟨key,a,false⟩],[]⟩):=(if_neg (by omega)).trans HZ0.out;have hdd1:DeedOk c1 ⟨q.c.nn,[⟨key,a,false⟩],[]⟩:=by
         rw [hc1];exact HD0.out.com (zGm _ _ (i:=0) (by omega) hz01)
        rw [←hc1] at h4 hO fz1;have hag:zAl (c1.at c1.nn) [⟨key,a,false⟩] 70=0:=by
         rw [hat1,zHn hca (by omega),zIn hU,zL7 _ key a b,if_neg (by omega)]
        have HC2:=zCF e p 70 (0+l.length+1) c1 (setF D 1 none) h4 (by omega) 0 (by omega) (z0,⟨q.c.nn,[⟨key,a,false⟩],[]⟩) hz01 hdd1 fz1;simp only [show ((0:Nat):Int)=0 from rfl,show ((1:Nat):Int)=1 from rfl] at HC2;have HN0:∀w,Calls Tryz.prog 45 #[errV 0] w fun e w'=>e=.returned (.int .i64 0)∧w'=w:=fun w=>zEZ 0 w (by omega)
        simp only [show errV 0=.nilIface from rfl] at HN0 ⊢;have HAG:=Lib.hid hag;have HAT:=Lib.hid hat1;have H4:=Lib.hid h4;clear h1 h2 h3 h4 h5 hc1 hag hat1 hle hdd1 hz01;go_upto_region 28 with (first|(go_at_call 22;(with_reducible refine Does.use hO (HC2) tk_ (du_ ?_);clear hO;(try clear hf);intro x9 w9 hO hf;(obtain ⟨n2,k2,c2,D2',ok2,_,k29,fz2⟩:=x9;dsimp only at hO ⊢;(replace hf:=fa_ hO))))|(refine sq_ ?_;clear hO;(try clear hf);intro w9 hO hf))
        cases ok2 with
        | none h1=>cases h1
        | late h1 h2=>exact absurd h2 (by dsimp only;rw [zFl];simp)
        | down c' h1 h2 h3 h4=>exact absurd fz1 h4
        | full h1 h2 h3 h4=>exact absurd HAG.out h3
        | done d h R0 W0 u h1 h2 h3 h4 h5=>
         dsimp only at h4 hO;obtain ⟨c2,hc2⟩:∃c2,c2=c1.com [⟨key,a,false⟩] d h R0 W0 u (zA5 (c1.nn+1) (setF (setF D 1 none) 0 none)):=⟨_,rfl⟩
         have hat2:c2.at c2.nn=appR (q.c.at q.c.nn) ⟨key,a,false⟩:=by
          rw [hc2];refine (H4.out.comAt _ _ _ _ _ _ _).trans ?_;rw [HAT.out];exact zIn hU key a b
         rw [←hc2] at h4 hO;have h40':=h4.len40;have hval:valR (c2.at c2.nn) key=(a,true):=by rw [hat2,zLp hU,if_pos rfl];rfl
         have HR:=zCM e p 70 c2 (setF (setF D 1 none) 0 none) (by omega);have HV:=fun xa cap w (h:ValsAt w xa ((c2.at c2.nn).flatMap rwC))=>zKY xa _ cap (c2.at c2.nn) key w rfl (by omega) h
         rw [hval] at HV;generalize c2.at c2.nn=rs at *;simp only [show errV 0=.nilIface from rfl];clear h1 h2 h3 h4 h5 hc2 hat2 hval;go_wp2_with (first|(go_at_call 45;(with_reducible apply Calls.mono (HN0 _);rintro e8 w8 ⟨rfl,rfl⟩;dsimp only))|(go_at_call 37;(with_reducible refine Does.use hO (HR) tk_ (du_ ?_);clear hO;(try clear hf);intro x9 w9 hO hf;(obtain ⟨xa,xc⟩:=x9;dsimp only at hO ⊢;replace hO:=hO.rowImm (a:=xa) (n:=rs.length) (c:=xc) (xs:=rs.flatMap rwC) pk_;(replace hf:=fa_ hO))))|(go_at_call 46;(with_reducible refine Own.quiet hO (HV _ _ _ (Own.immOf (φ:=fun w=>ValsAt w xa (rs.flatMap rwC)) hO pk_)) (ru_ ?_);clear hO;(try clear hf);intro w9 hO hf))|(refine sq_ ?_;clear hO;(try clear hf);intro w9 hO hf));all_goals try (exfalso;omega;done)
         go_ret;exact ⟨rfl,hO.toExt⟩
