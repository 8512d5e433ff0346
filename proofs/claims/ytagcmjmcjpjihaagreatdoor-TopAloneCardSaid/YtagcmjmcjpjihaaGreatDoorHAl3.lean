/- Texts Ta2, TopAlone of this claim, laid together. -/
import Derived.Test.YtagcmjmcjpjihaaGreatDoorHC39
set_option linter.unusedVariables false
set_option linter.unusedSimpArgs false
set_option linter.unnecessarySimpa false
set_option maxHeartbeats 8000000
set_option maxRecDepth 100000
namespace Go.Proofs.YtagcmjmcjpjihaaGreatDoor
open Go.RowKit Go.Lib
def TaArg2 (aa:Option Addr) (l:List Ac) (ba:Option Addr) (ow:List Ac) (w:World):Prop:=LibOk w∧ActsAt w aa l∧ActsAt w ba ow
theorem TaArg2.base {aa ba:Option Addr} {l ow:List Ac} {w:World} (h:TaArg2 aa l ba ow w):Own (fun _=>False) w w [.imm LibOk,.imm (fun w=>ActsAt w aa l),.imm (TaArg2 aa l ba ow)]:=by
 have h0:Own (fun _=>False) w w [.imm (TaArg2 aa l ba ow)]:=Own.base w _ fun w' hw'=>⟨h.1.up hw',h.2.1.up (zEw hw'),h.2.2.up (zEw hw')⟩
 exact ((h0.again.imp fun _ h=>h.2.1:Own _ _ _ [.imm (fun w=>ActsAt w aa l),.imm (TaArg2 aa l ba ow)]).pick (.there _ (.here _ _))).again.imp (ψ:=LibOk) (fun _ h=>h.1) |>.cut sb_
theorem ComOk.soon {m B:Nat} {c:Core} {D:Nat→Option (Nat×Dv)} {i:Nat} {x:Dv} {n k:Nat} {c':Core} {D':Nat→Option (Nat×Dv)} (h:ComOk m B c D i x n k c' D') (hc:zBY c.keys x.R x.since=true):k≠9:=by
 cases h with
 | none h1=>exact fun h=>by cases h
 | late h1 h2=>rw [hc] at h2;cases h2
 | full h1 h2 h3 h4=>omega
 | done d h R0 W0 u h1 h2 h3 h4 h5=>exact fun h=>by cases h
 | down c' h1 h2 h3 h4=>exact fun h=>by cases h
theorem zMM (aa:Option Addr) (ac:Nat) (l:List Ac) (ba:Option Addr) (bc:Nat) (ow:List Ac) (W:World) (hφ:TaArg2 aa l ba ow W) (hn:l.length≤9223372036854775807) (hn2:ow.length≤9223372036854775807) :
 Calls Tryz.prog 7 #[.slice aa l.length ac,.slice ba ow.length bc] W fun e w'=>e=.returned (.bool true)∧Ext W w':=by
 have hO:=hφ.base;have HG:=fun w (h:TaArg2 aa l ba ow w)=>zEL w h.1
 have HL1:∀w,TaArg2 aa l ba ow w→Calls Tryz.prog 16 #[.slice aa l.length ac,.int .i64 60] w fun e w'=>e=.returned (.bool (zAT l 60))∧w'=w:=fun w hA=>zBv aa ac l 60 w (by unfold maxLen;omega) (by omega) hA.2.1
 have HL2:∀w,TaArg2 aa l ba ow w→Calls Tryz.prog 16 #[.slice ba ow.length bc,.int .i64 30] w fun e w'=>e=.returned (.bool (zAT ow 30))∧w'=w:=fun w hA=>zBv ba bc ow 30 w (by unfold maxLen;omega) (by omega) hA.2.2
 have HS:=zCX 70 (by omega) (by omega);rw [show ((70:Nat):Int)+50=120 from rfl] at HS;(replace hf:=fa_ hO);go_enter Tryz.func7,Tryz.ntmps7;cases hli:zAT l 60 with
 | false=>
  rw [hli] at HL1;go_wp2_with (first|(go_at_call 42;(with_reducible apply Calls.mono (HG _ (Own.immOf (φ:=TaArg2 aa l ba ow) hO pk_));refine cu_ ?_;clear hO;(try clear hf);intro w8 hO hf))|(go_at_call 16;(with_reducible apply Calls.mono (HL1 _ (Own.immOf (φ:=TaArg2 aa l ba ow) hO pk_));rintro e8 w8 ⟨rfl,rfl⟩;dsimp only))|(go_at_call 16;(with_reducible apply Calls.mono (HL2 _ (Own.immOf (φ:=TaArg2 aa l ba ow) hO pk_));rintro e8 w8 ⟨rfl,rfl⟩;dsimp only))|(refine sq_ ?_;clear hO;(try clear hf);intro w9 hO hf));go_ret;exact ⟨rfl,hO.toExt⟩
 | true=>
 cases hlo:zAT ow 30 with
 | false=>
  rw [hli] at HL1;rw [hlo] at HL2;go_wp2_with (first|(go_at_call 42;(with_reducible apply Calls.mono (HG _ (Own.immOf (φ:=TaArg2 aa l ba ow) hO pk_));refine cu_ ?_;clear hO;(try clear hf);intro w8 hO hf))|(go_at_call 16;(with_reducible apply Calls.mono (HL1 _ (Own.immOf (φ:=TaArg2 aa l ba ow) hO pk_));rintro e8 w8 ⟨rfl,rfl⟩;dsimp only))|(go_at_call 16;(with_reducible apply Calls.mono (HL2 _ (Own.immOf (φ:=TaArg2 aa l ba ow) hO pk_));rintro e8 w8 ⟨rfl,rfl⟩;dsimp only))|(refine sq_ ?_;clear hO;(try clear hf);intro w9 hO hf));go_ret;exact ⟨rfl,hO.toExt⟩
 | true=>
  rw [hli] at HL1;rw [hlo] at HL2;obtain ⟨h80,hlt⟩:=zCi hli;obtain ⟨h30,hlo0⟩:=zCi hlo;have H0:=PSOk.start (m:=70) (by omega) (by omega);obtain ⟨f1,f2,f3,f4,f5⟩:=zCo 70;obtain ⟨c0,hc⟩:∃c,c=Core.new (newD (70+50)) newH [] [] 0:=⟨_,rfl⟩
  rw [←hc] at HS H0 f3;rw [←f3] at HS;clear hc f1 f2 f3 f4 f5;have HP:=fun e p=>zDa e p 70 0 c0 (fun _=>none) aa ac l H0 (by omega) hlt
  go_wp2_with (first|(go_at_call 42;(with_reducible apply Calls.mono (HG _ (Own.immOf (φ:=TaArg2 aa l ba ow) hO pk_));refine cu_ ?_;clear hO;(try clear hf);intro w8 hO hf))|(go_at_call 16;(with_reducible apply Calls.mono (HL1 _ (Own.immOf (φ:=TaArg2 aa l ba ow) hO pk_));rintro e8 w8 ⟨rfl,rfl⟩;dsimp only))|(go_at_call 16;(with_reducible apply Calls.mono (HL2 _ (Own.immOf (φ:=TaArg2 aa l ba ow) hO pk_));rintro e8 w8 ⟨rfl,rfl⟩;dsimp only))|(go_at_call 17;(with_reducible refine Does.use hO (HS) tk_ (du_ ?_);clear hO;(try clear hf);intro x9 w9 hO hf;(obtain ⟨p,e⟩:=x9;dsimp only at hO ⊢;(replace hf:=fa_ hO))))|(go_at_call 53;(with_reducible refine Does.use hO (HP _ _) tk_ (du_ ?_);clear hO;(try clear hf);intro x9 w9 hO hf;(obtain ⟨q,oa,oc,dl,run,out⟩:=x9;dsimp only at hO ⊢;(replace hf:=fa_ hO))))|(refine sq_ ?_;clear hO;(try clear hf);intro w9 hO hf));have HQ:=Lib.hid (run.ok H0 (by omega));clear run out;have hO9:Own (fun _=>False) W _ [EngR e p 70 q.c q.D,zAC p q.c.d,.imm LibOk,.imm (TaArg2 aa l ba ow)]:=hO.cut sb_;clear hO hf;go_loopw [8] (fun v8 wr=>∃(s:Nat) (D:Nat→Option (Nat×Dv)),v8=.int .i64 (s:Int)∧s≤4∧Hid (∀t<s,D t=none)∧Own (fun _=>False) W wr [EngR e p 70 q.c D,zAC p q.c.d,.imm LibOk,.imm (TaArg2 aa l ba ow)]) (fun v _=>5-(intOf v).toNat)
  case atStart=>exact ⟨0,q.D,rfl,by omega,Lib.hid fun t ht=>by omega,hO9⟩
  case round=>
   clear hO9;obtain ⟨s,D,rfl,hs4,HD,hO⟩:=hrel;rename World=>w1
   (replace hf:=fa_ hO);by_cases hlt4:s<4
   ·skip;cases hD:D s with
    | none=>
     have HAB:=zE6 e (s:Int) 7 (EngR e p 70 q.c D) (by omega) (zCg e p 70 q.c D s (by omega) hD);simp only [show errV 7=.iface 124 (.int .i64 7) from rfl] at HAB;go_wp2_with (first|(go_at_call 24;(with_reducible refine Does.use hO (HAB) tk_ (du_ ?_);clear hO;(try clear hf);intro x9 w9 hO hf))|(refine sq_ ?_;clear hO;(try clear hf);intro w9 hO hf));all_goals try (exfalso;omega;done)
     exact ⟨⟨s+1,D,by go_num,by omega,Lib.hid (fun t ht=>(Nat.lt_or_ge t s).elim (HD.out t) fun h=>(show t=s by omega) ▸ hD),hO.cut sb_⟩,by simp [intOf];omega⟩
    | some y=>
     have HAB:=zE5 e p 70 q.c D s (by omega) y hD;go_wp2_with (first|(go_at_call 24;(with_reducible refine Does.use hO (HAB) tk_ (du_ ?_);clear hO;(try clear hf);intro x9 w9 hO hf))|(refine sq_ ?_;clear hO;(try clear hf);intro w9 hO hf));all_goals try (exfalso;omega;done)
     exact ⟨⟨s+1,setF D s none,by go_num,by omega,Lib.hid (fun t ht=>by unfold setF;exact (Decidable.em (t=s)).elim (fun h=>if_pos h) fun h=>(if_neg h).trans (HD.out t (by omega))),hO.cut sb_⟩,by simp [intOf];omega⟩
   ·obtain rfl:s=4:=by omega
    have hc:=HQ.out.c;have HB:=zDU e p 70 q.c D 2 (by omega) (HD.out 2 (by omega));have HDD:=fun z:Nat=>zCZ e p 70 q.c (setF D 2 (some (z,⟨q.c.nn,[],[]⟩))) 2 (by omega) (z,⟨q.c.nn,[],[]⟩) rfl
    rw [show ((2:Nat):Int)=2 from rfl] at HB;simp only [show ((2:Nat):Int)=2 from rfl] at HDD;go_wp2_with (first|(go_at_call 20;(with_reducible refine Does.use hO (HB) tk_ (du_ ?_);clear hO;(try clear hf);intro x9 w9 hO hf;rename Nat=>z))|(go_at_call 30;(with_reducible refine Does.use hO (HDD _) tk_ (du_ ?_);clear hO;(try clear hf);intro x9 w9 hO hf))|(refine sq_ ?_;clear hO;(try clear hf);intro w9 hO hf));all_goals try (exfalso;omega;done)
    have hO9:Own (fun _=>False) W _ [EngR e p 70 q.c (setF D 2 (some (z,⟨q.c.nn,[],[]⟩))),zAC p q.c.d,.imm LibOk,.imm (TaArg2 aa l ba ow)]:=hO.cut sb_;clear hO hf;go_loopw [11] (fun v11 wr=>∃(i:Nat) (x:Dv),v11=.int .i64 (i:Int)∧i≤ow.length∧Hid (x.since=q.c.nn∧DeedOk q.c x)∧Own (fun _=>False) W wr [EngR e p 70 q.c (setF D 2 (some (z,x))),zAC p q.c.d,.imm LibOk,.imm (TaArg2 aa l ba ow)]) (fun v _=>ow.length+1-(intOf v).toNat)
    case atStart=>exact ⟨0,_,rfl,by omega,Lib.hid ⟨rfl,hc.fresh⟩,hO9⟩
    case round=>
     clear hO9;obtain ⟨i,x,rfl,hi,HX,hO⟩:=hrel;rename World=>w2
     (replace hf:=fa_ hO);by_cases hlt9:i<ow.length
     ·obtain ⟨hs1,hs2⟩:=((Own.immOf (φ:=TaArg2 aa l ba ow) hO pk_)).2.2;rcases hs1 with h0 | ⟨b,off,rfl,hcs⟩
      ·rw [h0] at hlt9;simp at hlt9
      have hA:=hcs i hlt9;clear hcs hs2;have hm:=List.getElem_mem hlt9;have hsp:∀w,TaArg2 aa l (some ⟨b,off,none⟩) ow w→SpansAt w (ow[i]).sp (ow[i]).spn∧(ow[i]).spn.length≤maxLen:=fun w h=>⟨(h.2.2.2 _ hm).2.2.1,(h.2.2.2 _ hm).2.2.2.2⟩
      have hsz:=hlo0 _ hm;clear hm;generalize ow[i]=a at *;obtain ⟨k0,k1,k2,k3,k4,k5,k6,k7,k8⟩:=hA;have hdd:=HX.out.2;obtain ⟨res,hr⟩:=zIL a.s a.a a.b (hdd.qr hc) hdd.q;have HTL:=zFx (e:=e) (p:=p) (m:=70) hc (i:=2) (by omega) (D:=setF D 2 (some (z,x))) (x:=(z,x)) rfl hdd a hsz.1 hsz.2 (φ:=TaArg2 aa l (some ⟨b,off,none⟩) ow) (fun _ h=>h.1) hsp (res:=res) hr;have HI:=Lib.hid (show x.since=q.c.nn∧DeedOk q.c ⟨x.since,(zAd (q.c.at x.since) x.C x.R a res).2.1,(zAd (q.c.at x.since) x.C x.R a res).2.2⟩ from ⟨HX.out.1,hdd.f,hdd.k,hdd.le,zE8 hdd.q a hr⟩);unfold Ac.v at HTL;dsimp only at HTL;rw [zDs] at HTL;generalize zAd (q.c.at x.since) x.C x.R a res=y at *;go_wp2_with (first|(go_at_call 54;(with_reducible refine Does.use hO (HTL) tk_ (du_ ?_);clear hO;(try clear hf);intro x9 w9 hO hf))|(refine sq_ ?_;clear hO;(try clear hf);intro w9 hO hf));all_goals try (exfalso;omega;done)
      exact ⟨⟨i+1,_,by go_num,by omega,HI,hO.cut sb_⟩,by simp [intOf];omega⟩
     ·obtain rfl:i=ow.length:=by omega
      obtain ⟨hx1,hx2⟩:=HX.out;have HCM:=zCF e p 70 (0+l.length) q.c (setF D 2 (some (z,x))) hc (by omega) 2 (by omega) (z,x) rfl hx2 HQ.out.f;rw [show ((2:Nat):Int)=2 from rfl] at HCM;have HNO:=fun (y:ComQ 70 (0+l.length) q.c (setF D 2 (some (z,x))) 2 x)=>y.ok.soon (by rw [hx1];exact zPv hc _)
      go_wp2_with (first|(go_at_call 22;(with_reducible refine Does.use hO (HCM) tk_ (du_ ?_);clear hO;(try clear hf);intro x9 w9 hO hf;(have hk9:=HNO x9;have hk8:=x9.k9;have HN7:∀w,Calls Tryz.prog 45 #[errV x9.k] w fun e w'=>e=.returned (.int .i64 x9.k)∧w'=w:=fun w=>zEZ x9.k w (by omega))))|(go_at_call 45;(with_reducible apply Calls.mono (HN7 _);rintro e8 w8 ⟨rfl,rfl⟩;dsimp only))|(refine sq_ ?_;clear hO;(try clear hf);intro w9 hO hf));all_goals try (exfalso;omega;done)
      rw [show ((x9.k : Int) != 9) = true from bne_iff_ne.2 (by omega)];go_ret;exact ⟨rfl,hO.toExt⟩
