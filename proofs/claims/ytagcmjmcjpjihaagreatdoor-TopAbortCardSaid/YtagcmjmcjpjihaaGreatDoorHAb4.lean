/- Texts Ta1, TopAbort of this claim, laid together. -/
import Derived.Test.YtagcmjmcjpjihaaGreatDoorHC39
import Derived.Test.YtagcmjmcjpjihaaGreatDoorHAb3
set_option linter.unusedVariables false
set_option linter.unusedSimpArgs false
set_option maxHeartbeats 8000000
set_option maxRecDepth 100000
namespace Go.Proofs.YtagcmjmcjpjihaaGreatDoor
open Go.RowKit Go.Lib
theorem TaArg.one {w:World} {b off i:Nat} {l:List Ac} (h:TaArg (some ⟨b,off,none⟩) l w) (hi:i<l.length):ActsAt w (some ⟨b,off+i*9,none⟩) [l[i]]:=by
 refine ⟨.inr ⟨b,off+i*9,rfl,fun j hj=>?_⟩,fun x hx=>h.2.2 x (by rw [List.mem_singleton.1 hx];exact List.getElem_mem hi)⟩;obtain rfl:j=0:=by simp at hj;exact hj
 rcases h.2.1 with h0 | ⟨b',off',he,hc⟩
 ·rw [h0] at hi;simp at hi
 ·cases he;simpa using hc i hi
theorem ActsAt.act0 {w:World} {b off:Nat} {x:Ac} (h:ActsAt w (some ⟨b,off,none⟩) [x]):AcAt w b off x:=by
 rcases h.1 with h0 | ⟨b',off',he,hc⟩
 ·cases h0
 ·cases he;simpa using hc 0 (by simp)
theorem zMC (aa:Option Addr) (ac:Nat) (l:List Ac) (W:World) (hφ:TaArg aa l W) (hn:l.length≤9223372036854775807) (hcap:l.length≤ac) (hac:ac≤maxLen) :
 Calls Tryz.prog 11 #[.slice aa l.length ac] W fun e w'=>e=.returned (.bool true)∧Ext W w':=by
 have hO:=hφ.base;have HG:=fun w (h:TaArg aa l w)=>zEL w h.1
 have HL:∀w,TaArg aa l w→Calls Tryz.prog 16 #[.slice aa l.length ac,.int .i64 80] w fun e w'=>e=.returned (.bool (zAT l 80))∧w'=w:=fun w hA=>zBv aa ac l 80 w (by unfold maxLen;omega) (by omega) hA.2
 have HS:=zCX 70 (by omega) (by omega);rw [show ((70:Nat):Int)+50=120 from rfl] at HS;unfold maxLen at hac;(replace hf:=fa_ hO);go_enter Tryz.func11,Tryz.ntmps11;cases hli:zAT l 80 with
 | false=>
  rw [hli] at HL;go_wp2_with (first|(go_at_call 42;(with_reducible apply Calls.mono (HG _ (Own.immOf (φ:=TaArg aa l) hO pk_));refine cu_ ?_;clear hO;(try clear hf);intro w8 hO hf))|(go_at_call 16;(with_reducible apply Calls.mono (HL _ (Own.immOf (φ:=TaArg aa l) hO pk_));rintro e8 w8 ⟨rfl,rfl⟩;dsimp only))|(refine sq_ ?_;clear hO;(try clear hf);intro w9 hO hf));go_ret;exact ⟨rfl,hO.toExt⟩
 | true=>
  rw [hli] at HL;obtain ⟨h80,hlt0⟩:=zCi hli;have H0:=PSOk.start (m:=70) (by omega) (by omega);obtain ⟨f1,f2,f3,f4,f5⟩:=zCo 70;obtain ⟨c0,hc⟩:∃c,c=Core.new (newD (70+50)) newH [] [] 0:=⟨_,rfl⟩
  rw [←hc] at HS H0 f3;rw [←f3] at HS;clear hc f1 f2 f3 f4 f5;go_wp2_with (first|(go_at_call 42;(with_reducible apply Calls.mono (HG _ (Own.immOf (φ:=TaArg aa l) hO pk_));refine cu_ ?_;clear hO;(try clear hf);intro w8 hO hf))|(go_at_call 16;(with_reducible apply Calls.mono (HL _ (Own.immOf (φ:=TaArg aa l) hO pk_));rintro e8 w8 ⟨rfl,rfl⟩;dsimp only))|(go_at_call 17;(with_reducible refine Does.use hO (HS) tk_ (du_ ?_);clear hO;(try clear hf);intro x9 w9 hO hf;(obtain ⟨p,e⟩:=x9;dsimp only at hO ⊢;(replace hf:=fa_ hO))))|(refine sq_ ?_;clear hO;(try clear hf);intro w9 hO hf));have hO9:Own (fun _=>False) W _ [EngR e p 70 c0 (fun _=>none),zAC p c0.d,.imm LibOk,.imm (TaArg aa l)]:=hO.cut sb_;clear hO hf;go_loopw [6] (fun v6 wr=>∃(i:Nat) (c:Core) (D:Nat→Option (Nat×Dv)),v6=.int .i64 (i:Int)∧i≤l.length∧Hid (PSOk 70 i ⟨c,D,fun _=>[],[]⟩)∧Own (fun _=>False) W wr [EngR e p 70 c D,zAC p c.d,.imm LibOk,.imm (TaArg aa l)]) (fun v _=>l.length+1-(intOf v).toNat)
  case atStart=>exact ⟨0,c0,fun _=>none,rfl,by omega,Lib.hid H0,hO9⟩
  case round=>
   clear hO9;obtain ⟨i,c,D,rfl,hi,HP,hO⟩:=hrel;rename World=>w1
   (replace hf:=fa_ hO);by_cases hlt:i<l.length
   ·have hA0:=(Own.immOf (φ:=TaArg aa l) hO pk_)
    obtain ⟨hs1,hs2⟩:=hA0.2;rcases hs1 with h0 | ⟨b,off,rfl,hc⟩
    ·rw [h0] at hlt;simp at hlt
    have hA:=hc i hlt;clear hc hs2 hA0;have hsz:=hlt0 _ (List.getElem_mem hlt);replace hO:=(hO.pick (r:=.imm (TaArg (some ⟨b,off,none⟩) l)) pk_).again.imp (ψ:=fun w=>ActsAt w (some ⟨b,off+i*9,none⟩) [l[i]]) fun w h=>h.one hlt
    generalize l[i]=x at *;obtain ⟨s,hs4,hse⟩:=and3 x.c;have hses:=x.ses_is hse;have hK:=HP.out.c;have h40:(c.at c.nn).length≤40:=hK.len40;have HR:=zCM e p 70 c D (by omega);have HNW:=zEE e p 70 c D;obtain ⟨rs,hrs⟩:∃rs,rs=c.at c.nn:=⟨_,rfl⟩
    rw [←hrs] at HR h40;have HRS:=Lib.hid hrs;clear hrs;clear hK hA;obtain ⟨xkind,xA,xB,xC,xK,xS,xT,xcp,xcc,xch,xsp,xsc,xspn⟩:=x;dsimp only at hsz hse;go_upto_region 14 with (first|(go_at_call 37;(with_reducible apply Does.use hO (HR);exact tk_;refine du_ ?_;clear hO;(try clear hf);intro x9 w9 hO hf;(obtain ⟨xa0,xc0⟩:=x9;dsimp only at hO ⊢;replace hO:=hO.rowImm (a:=xa0) (n:=rs.length) (c:=xc0) (xs:=rs.flatMap rwC) pk_;(replace hf:=fa_ hO))))|(go_at_call 34;(with_reducible refine Does.use hO (HNW) tk_ (du_ ?_);clear hO;(try clear hf);intro x9 w9 hO hf))|(refine sq_ ?_;clear hO;(try clear hf);intro w9 hO hf))
    obtain ⟨k0,k1,k2,k3,k4,k5,k6,k7,k8⟩:=(Own.immOf (φ:=fun w=>ActsAt w (some ⟨b,off+i*9,none⟩) [⟨xkind,xA,xB,xC,xK,xS,xT,xcp,xcc,xch,xsp,xsc,xspn⟩]) hO pk_).act0;cases kb:(xkind.toList==[99,111,109,109,105,116]) with
    | true=>
     have hk:xkind.toList=[99,111,109,109,105,116]:=eq_of_beq kb;cases hD:D s with
     | none=>
      have HCM:=zPH e (s:Int) 7 (EngR e p 70 c D) (by omega) (zCg e p 70 c D s hs4 hD);simp only [show errV 7=.iface 124 (.int .i64 7) from rfl] at HCM;go_wp2_with (first|(go_at_call 34;(with_reducible refine Does.use hO (HNW) tk_ (du_ ?_);clear hO;(try clear hf);intro x9 w9 hO hf))|(go_at_call 22;(with_reducible refine Does.use hO (HCM) tk_ (du_ ?_);clear hO;(try clear hf);intro x9 w9 hO hf))|(go_at_call 37;(with_reducible apply Does.use hO (HR);exact tk_;refine du_ ?_;clear hO;(try clear hf);intro x9 w9 hO hf;(obtain ⟨xa1,xc1⟩:=x9;dsimp only at hO ⊢;replace hO:=hO.rowImm (a:=xa1) (n:=rs.length) (c:=xc1) (xs:=rs.flatMap rwC) pk_;(replace hf:=fa_ hO))))|(go_at_call 36;(with_reducible apply Calls.mono (zCA xa1 xa0 rs.length xc1 xc0 rs _ rfl (by omega) (Own.immOf (φ:=fun w=>ValsAt w xa1 (rs.flatMap rwC)) hO pk_) (Own.immOf (φ:=fun w=>ValsAt w xa0 (rs.flatMap rwC)) hO pk_));refine cu_ ?_;clear hO;(try clear hf);intro w8 hO hf))|(refine sq_ ?_;clear hO;(try clear hf);intro w9 hO hf));all_goals try (exfalso;omega;done)
      exact ⟨⟨i+1,c,D,by go_num,by omega,Lib.hid ⟨HP.out.c.more (Nat.le_succ _) (by omega),HP.out.d,HP.out.f⟩,hO.cut sb_⟩,by simp [intOf];omega⟩
     | some y=>
      have hdd:=HP.out.d s hs4 y hD;have HCM:=zCF e p 70 i c D HP.out.c (by omega) s hs4 y hD hdd HP.out.f;have HLV:=Lib.hid (fun (n k:Nat) (c':Core) (D':Nat→Option (Nat×Dv)) (h:ComOk 70 i c D s y.2 n k c' D')=>h.leaves HP.out.c (by omega) HP.out.d HP.out.f);have HSM:=Lib.hid (fun (n k:Nat) (c':Core) (D':Nat→Option (Nat×Dv)) (h:ComOk 70 i c D s y.2 n k c' D')=>h.same);go_upto_region 17 with (first|(go_at_call 22;(with_reducible refine Does.use hO (HCM) tk_ (du_ ?_);clear hO;(try clear hf);intro x9 w9 hO hf;(obtain ⟨yn,yk,yc,yD,yok,y10,y9,yf⟩:=x9;dsimp only at hO ⊢;(replace hf:=fa_ hO))))|(refine sq_ ?_;clear hO;(try clear hf);intro w9 hO hf))
      all_goals try (exfalso;omega;done)
      obtain ⟨v1,v2,v3⟩:=HLV.out yn yk yc yD yok;have HV:=Lib.hid (show PSOk 70 (i+1) ⟨yc,yD,fun _=>[],[]⟩ from ⟨v1,v2,v3⟩);clear v1 v2 v3 HLV;by_cases hk0:yk=0
      ·subst hk0;simp only [show errV 0=Value.nilIface from rfl];go_wp2_with (refine sq_ ?_;clear hO;(try clear hf);intro w9 hO hf);all_goals try (exfalso;omega;done)
       exact ⟨⟨i+1,yc,yD,by go_num,by omega,HV,hO.cut sb_⟩,by simp [intOf];omega⟩
      ·obtain rfl:=HSM.out yn yk yc yD yok hk0 y10;have HNW2:=zEE e p 70 yc yD;have HR2:=zCM e p 70 yc yD (by rw [←HRS.out];omega);rw [←HRS.out] at HR2;clear HSM yok;rw [show errV yk=.iface 124 (.int .i64 yk) from if_neg hk0];go_wp2_with (first|(go_at_call 34;(with_reducible refine Does.use hO (HNW2) tk_ (du_ ?_);clear hO;(try clear hf);intro x9 w9 hO hf))|(go_at_call 37;(with_reducible apply Does.use hO (HR2);exact tk_;refine du_ ?_;clear hO;(try clear hf);intro x9 w9 hO hf;(obtain ⟨xa1,xc1⟩:=x9;dsimp only at hO ⊢;replace hO:=hO.rowImm (a:=xa1) (n:=rs.length) (c:=xc1) (xs:=rs.flatMap rwC) pk_;(replace hf:=fa_ hO))))|(go_at_call 36;(with_reducible apply Calls.mono (zCA xa1 xa0 rs.length xc1 xc0 rs _ rfl (by omega) (Own.immOf (φ:=fun w=>ValsAt w xa1 (rs.flatMap rwC)) hO pk_) (Own.immOf (φ:=fun w=>ValsAt w xa0 (rs.flatMap rwC)) hO pk_));refine cu_ ?_;clear hO;(try clear hf);intro w8 hO hf))|(refine sq_ ?_;clear hO;(try clear hf);intro w9 hO hf));all_goals try (exfalso;omega;done)
       exact ⟨⟨i+1,yc,yD,by go_num,by omega,HV,hO.cut sb_⟩,by simp [intOf];omega⟩
    | false=>
     have hk:xkind.toList≠[99,111,109,109,105,116]:=fun h=>by rw [h] at kb;cases kb
     have HPL:=zDa e p 70 i c D (some ⟨b,off+i*9,none⟩) (ac-i) [⟨xkind,xA,xB,xC,xK,xS,xT,xcp,xcc,xch,xsp,xsc,xspn⟩] HP.out (by simp;omega) (by intro z hz;rw [List.mem_singleton.1 hz];exact hsz);go_upto_region 19 with (first|(go_at_call 53;(with_reducible refine Does.use hO (HPL) tk_ (du_ ?_);clear hO;(try clear hf);intro x9 w9 hO hf;(obtain ⟨q,oa,oc,dl,run,out⟩:=x9;dsimp only at hO ⊢;(replace hf:=fa_ hO))))|(refine sq_ ?_;clear hO;(try clear hf);intro w9 hO hf))
     all_goals try (exfalso;omega;done)
     obtain ⟨g1,g2⟩:=run.one.stays hk;dsimp only at g1 g2;have HOK:=Lib.hid (run.ok HP.out (by simp;omega));have HNW2:=zEE e p 70 q.c q.D;rw [g1] at HNW2;have HR2:=zCM e p 70 q.c q.D (by rw [g2,←HRS.out];omega);rw [g2,←HRS.out] at HR2;clear run out g1 g2;go_wp2_with (first|(go_at_call 34;(with_reducible refine Does.use hO (HNW2) tk_ (du_ ?_);clear hO hf;intro x9 w9 hO hf))|(go_at_call 37;(with_reducible apply Does.use hO (HR2);exact tk_;refine du_ ?_;clear hO hf;intro x9 w9 hO hf;(obtain ⟨xa1,xc1⟩:=x9;dsimp only at hO ⊢;replace hO:=hO.rowImm (a:=xa1) (n:=rs.length) (c:=xc1) (xs:=rs.flatMap rwC) pk_;(replace hf:=fa_ hO))))|(go_at_call 36;(with_reducible apply Calls.mono (zCA xa1 xa0 rs.length xc1 xc0 rs _ rfl (by omega) (Own.immOf (φ:=fun w=>ValsAt w xa1 (rs.flatMap rwC)) hO pk_) (Own.immOf (φ:=fun w=>ValsAt w xa0 (rs.flatMap rwC)) hO pk_));refine cu_ ?_;clear hO hf;intro w8 hO hf))|(refine sq_ ?_;clear hO hf;intro w9 hO hf));all_goals try (exfalso;omega;done)
     exact ⟨⟨i+1,q.c,q.D,by go_num,by omega,Lib.hid ⟨HOK.out.c,HOK.out.d,HOK.out.f⟩,hO.cut sb_⟩,by simp [intOf];omega⟩
   ·obtain rfl:i=l.length:=by omega
    go_wp2_with (refine sq_ ?_;clear hO;(try clear hf);intro w9 hO hf);all_goals try (exfalso;omega;done)
    go_ret;exact ⟨rfl,hO.toExt⟩
