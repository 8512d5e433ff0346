/- Texts Ta2, ActV, TopReader of this claim, laid together. -/
import Derived.Test.YtagcmjmcjpjihaaGreatDoorHC39
import Derived.Test.YtagcmjmcjpjihaaGreatDoorHRe5
import Derived.Test.YtagcmjmcjpjihaaGreatDoorHRe3
import Derived.Test.YtagcmjmcjpjihaaGreatDoorHRe4
set_option linter.unusedVariables false
set_option linter.unusedSimpArgs false
set_option linter.unnecessarySimpa false
set_option maxHeartbeats 8000000
set_option maxRecDepth 100000
namespace Go.Proofs.YtagcmjmcjpjihaaGreatDoor
open Go.RowKit Go.Lib
def TaArg2 (aa:Option Addr) (l:List Ac) (ba:Option Addr) (ow:List Ac) (w:World):Prop:=LibOk w∧ActsAt w aa l∧ActsAt w ba ow
theorem TaArg2.base {aa ba:Option Addr} {l ow:List Ac} {w:World} (h:TaArg2 aa l ba ow w):Own (fun _=>False) w w [.imm LibOk,.imm (fun w=>ActsAt w aa l),.imm (TaArg2 aa l ba ow)]:=by
 have h0:Own (fun _=>False) w w [.imm (TaArg2 aa l ba ow)]:=Own.base w _ fun w' hw'=>⟨h.1.up hw',h.2.1.up (zEw hw'),h.2.2.up (zEw hw')⟩
 exact ((h0.again.imp fun _ h=>h.2.1:Own _ _ _ [.imm (fun w=>ActsAt w aa l),.imm (TaArg2 aa l ba ow)]).pick (.there _ (.here _ _))).again.imp (ψ:=LibOk) (fun _ h=>h.1) |>.cut sb_
theorem ActsAt.ofVals {w:World} {a:Option Addr} {l:List Ac} (h:ValsAt w a (l.flatMap acC)) (hw:∀x∈l,x.wf w):ActsAt w a l:=by
 refine ⟨?_,hw⟩;cases l with
 | nil=>exact .inl rfl
 | cons y l=>
  right;rcases h with h | ⟨b,off,rfl,hc⟩
  ·exact absurd h (by simp [acC])
  ·refine ⟨b,off,rfl,fun i hi=>?_⟩;have g:∀(c:Nat) (v:Value),(acC (y::l)[i])[c]?=some v→w.cell? ⟨b,off+i*9+c,none⟩=some v:=fun c v hv=>by
    have:=ValsAt.get (.inr ⟨b,off,rfl,hc⟩) (zEl (f:=acC) (k:=9) (fun _=>rfl) hi c v hv)
    rwa [←Nat.add_assoc] at this
   exact ⟨g 0 _ rfl,g 1 _ rfl,g 2 _ rfl,g 3 _ rfl,g 4 _ rfl,g 5 _ rfl,g 6 _ rfl,g 7 _ rfl,g 8 _ rfl⟩
theorem ses3 {x:Ac} {s:Nat} (h:bits .and .i64 x.c 3=(s:Int)) (b:Bool) (hb:b=decide (s≠3)):decide (x.ses≠3)=b:=by
 rw [hb];unfold Ac.ses;rw [h];rfl
theorem zQu (p:Ac→Bool) (l:List Ac) {i:Nat} (h:i<l.length):(l.take (i+1)).filter p=(l.take i).filter p++if p l[i] then [l[i]] else []:=by
 rw [List.take_succ_eq_append_getElem h,List.filter_append,List.filter_cons];split<;>simp
theorem zLC (aa:Option Addr) (ac:Nat) (l:List Ac) (ba:Option Addr) (bc:Nat) (ow:List Ac) (lo hi key:ByteArray) (W:World) (hφ:TaArg2 aa l ba ow W) (hn:l.length≤9223372036854775807) (hn2:ow.length≤9223372036854775807) :
 Calls Tryz.prog 8 #[.slice aa l.length ac,.slice ba ow.length bc,.agg #[.string lo,.string hi],.string key] W fun e w'=>e=.returned (.bool true)∧Ext W w':=by
 have hO:=hφ.base;have HG:=fun w (h:TaArg2 aa l ba ow w)=>zEL w h.1
 have HL1:∀w,TaArg2 aa l ba ow w→Calls Tryz.prog 16 #[.slice aa l.length ac,.int .i64 40] w fun e w'=>e=.returned (.bool (zAT l 40))∧w'=w:=fun w hA=>zBv aa ac l 40 w (by unfold maxLen;omega) (by omega) hA.2.1
 have HL2:∀w,TaArg2 aa l ba ow w→Calls Tryz.prog 16 #[.slice ba ow.length bc,.int .i64 60] w fun e w'=>e=.returned (.bool (zAT ow 60))∧w'=w:=fun w hA=>zBv ba bc ow 60 w (by unfold maxLen;omega) (by omega) hA.2.2
 have HSP:∀w b,(Var b [.string lo,.string hi] 98).facts w→Calls Tryz.prog 55 #[.slice (some ⟨b,0,none⟩) 1 1] w fun e w'=>e=.returned (.bool (zBk [⟨lo,hi⟩]))∧w'=w:=fun w b h=>
  zDv (some ⟨b,0,none⟩) 1 [⟨lo,hi⟩] w (by unfold maxLen;simp) (zLy (.inr ⟨b,0,rfl,fun i hi'=>Var.at (t:=98) h i _ (List.getElem?_eq_getElem hi')⟩))
 have HS:=zCX 70 (by omega) (by omega);rw [show ((70:Nat):Int)+50=120 from rfl] at HS;(replace hf:=fa_ hO);go_enter Tryz.func8,Tryz.ntmps8;go_upto_region 1 with (first|(refine sq_ ?_;clear hO hf;intro w9 hO hf))
 obtain ⟨g,hg9⟩:=(hO.pick (r:=Var _ [.string lo,.string hi] 98) pk_).named;rw [←hg9];rw [←hg9] at hO;clear hg9;cases hli:zAT l 40 with
 | false=>
  rw [hli] at HL1;go_wp2_with (first|(go_at_call 42;(with_reducible apply Calls.mono (HG _ (Own.immOf (φ:=TaArg2 aa l ba ow) hO pk_));refine cu_ ?_;clear hO;(try clear hf);intro w8 hO hf))|(go_at_call 16;(with_reducible apply Calls.mono (HL1 _ (Own.immOf (φ:=TaArg2 aa l ba ow) hO pk_));rintro e8 w8 ⟨rfl,rfl⟩;dsimp only))|(go_at_call 16;(with_reducible apply Calls.mono (HL2 _ (Own.immOf (φ:=TaArg2 aa l ba ow) hO pk_));rintro e8 w8 ⟨rfl,rfl⟩;dsimp only))|(go_at_call 55;((refine Calls.mono (HSP _ _ (by exact hO.factOf pk_)) ?_);rintro e8 w8 ⟨rfl,rfl⟩;dsimp only))|(refine sq_ ?_;clear hO;(try clear hf);intro w9 hO hf));go_ret;exact ⟨rfl,hO.toExt⟩
 | true=>
 rw [hli] at HL1;cases hlo:zAT ow 60 with
 | false=>
  rw [hlo] at HL2;go_wp2_with (first|(go_at_call 42;(with_reducible apply Calls.mono (HG _ (Own.immOf (φ:=TaArg2 aa l ba ow) hO pk_));refine cu_ ?_;clear hO;(try clear hf);intro w8 hO hf))|(go_at_call 16;(with_reducible apply Calls.mono (HL1 _ (Own.immOf (φ:=TaArg2 aa l ba ow) hO pk_));rintro e8 w8 ⟨rfl,rfl⟩;dsimp only))|(go_at_call 16;(with_reducible apply Calls.mono (HL2 _ (Own.immOf (φ:=TaArg2 aa l ba ow) hO pk_));rintro e8 w8 ⟨rfl,rfl⟩;dsimp only))|(go_at_call 55;((refine Calls.mono (HSP _ _ (by exact hO.factOf pk_)) ?_);rintro e8 w8 ⟨rfl,rfl⟩;dsimp only))|(refine sq_ ?_;clear hO;(try clear hf);intro w9 hO hf));go_ret;exact ⟨rfl,hO.toExt⟩
 | true=>
 rw [hlo] at HL2;cases hls:zBk [⟨lo,hi⟩] with
 | false=>
  rw [hls] at HSP;go_wp2_with (first|(go_at_call 42;(with_reducible apply Calls.mono (HG _ (Own.immOf (φ:=TaArg2 aa l ba ow) hO pk_));refine cu_ ?_;clear hO;(try clear hf);intro w8 hO hf))|(go_at_call 16;(with_reducible apply Calls.mono (HL1 _ (Own.immOf (φ:=TaArg2 aa l ba ow) hO pk_));rintro e8 w8 ⟨rfl,rfl⟩;dsimp only))|(go_at_call 16;(with_reducible apply Calls.mono (HL2 _ (Own.immOf (φ:=TaArg2 aa l ba ow) hO pk_));rintro e8 w8 ⟨rfl,rfl⟩;dsimp only))|(go_at_call 55;((refine Calls.mono (HSP _ _ (by exact hO.factOf pk_)) ?_);rintro e8 w8 ⟨rfl,rfl⟩;dsimp only))|(refine sq_ ?_;clear hO;(try clear hf);intro w9 hO hf));go_ret;exact ⟨rfl,hO.toExt⟩
 | true=>
 rw [hls] at HSP;by_cases hks:key.size≤60
 case neg=>
  go_wp2_with (first|(go_at_call 42;(with_reducible apply Calls.mono (HG _ (Own.immOf (φ:=TaArg2 aa l ba ow) hO pk_));refine cu_ ?_;clear hO;(try clear hf);intro w8 hO hf))|(go_at_call 16;(with_reducible apply Calls.mono (HL1 _ (Own.immOf (φ:=TaArg2 aa l ba ow) hO pk_));rintro e8 w8 ⟨rfl,rfl⟩;dsimp only))|(go_at_call 16;(with_reducible apply Calls.mono (HL2 _ (Own.immOf (φ:=TaArg2 aa l ba ow) hO pk_));rintro e8 w8 ⟨rfl,rfl⟩;dsimp only))|(go_at_call 55;((refine Calls.mono (HSP _ _ (by exact hO.factOf pk_)) ?_);rintro e8 w8 ⟨rfl,rfl⟩;dsimp only))|(refine sq_ ?_;clear hO;(try clear hf);intro w9 hO hf));all_goals try (exfalso;omega;done)
  go_ret;exact ⟨rfl,hO.toExt⟩
 obtain ⟨h40,hlt⟩:=zCi hli;obtain ⟨h60,hlo0⟩:=zCi hlo;have H0:=PSOk.start (m:=70) (by omega) (by omega);obtain ⟨f1,f2,f3,f4,f5⟩:=zCo 70;obtain ⟨c0,hc⟩:∃c,c=Core.new (newD (70+50)) newH [] [] 0:=⟨_,rfl⟩
 rw [←hc] at HS H0 f3;rw [←f3] at HS;clear hc f1 f2 f3 f4 f5;have HP:=fun e p=>zDa e p 70 0 c0 (fun _=>none) aa ac l H0 (by omega) hlt
 go_wp2_with (first|(go_at_call 42;(with_reducible apply Calls.mono (HG _ (Own.immOf (φ:=TaArg2 aa l ba ow) hO pk_));refine cu_ ?_;clear hO;(try clear hf);intro w8 hO hf))|(go_at_call 16;(with_reducible apply Calls.mono (HL1 _ (Own.immOf (φ:=TaArg2 aa l ba ow) hO pk_));rintro e8 w8 ⟨rfl,rfl⟩;dsimp only))|(go_at_call 16;(with_reducible apply Calls.mono (HL2 _ (Own.immOf (φ:=TaArg2 aa l ba ow) hO pk_));rintro e8 w8 ⟨rfl,rfl⟩;dsimp only))|(go_at_call 55;((refine Calls.mono (HSP _ _ (by exact hO.factOf pk_)) ?_);rintro e8 w8 ⟨rfl,rfl⟩;dsimp only))|(go_at_call 17;(with_reducible refine Does.use hO (HS) tk_ (du_ ?_);clear hO;(try clear hf);intro x9 w9 hO hf;(obtain ⟨p,e⟩:=x9;dsimp only at hO ⊢;(replace hf:=fa_ hO))))|(go_at_call 53;(with_reducible refine Does.use hO (HP _ _) tk_ (du_ ?_);clear hO;(try clear hf);intro x9 w9 hO hf;(obtain ⟨q,oa,oc,dl,run,out⟩:=x9;dsimp only at hO ⊢;(replace hf:=fa_ hO))))|(refine sq_ ?_;clear hO;(try clear hf);intro w9 hO hf));have HQ:=Lib.hid (run.ok H0 (by omega));clear run out HP HS HL1 HL2 HSP;have hO9:Own (fun _=>False) W _ [Var g [.string lo,.string hi] 98,EngR e p 70 q.c q.D,zAC p q.c.d,.imm LibOk,.imm (TaArg2 aa l ba ow)]:=hO.cut sb_;clear hO hf;go_loopw [12] (fun v wr=>∃(s:Nat) (D:Nat→Option (Nat×Dv)),v=.int .i64 (s:Int)∧s≤4∧Hid (∀t<s,D t=none)∧Own (fun _=>False) W wr [Var g [.string lo,.string hi] 98,EngR e p 70 q.c D,zAC p q.c.d,.imm LibOk,.imm (TaArg2 aa l ba ow)]) (fun v _=>5-(intOf v).toNat)
 case atStart=>exact ⟨0,q.D,rfl,by omega,Lib.hid fun t ht=>by omega,hO9⟩
 case round=>
  clear hO9;obtain ⟨s,D,rfl,hs4,HD,hO⟩:=hrel;rename World=>w1
  (replace hf:=fa_ hO);by_cases hlt4:s<4
  ·skip;cases hD:D s with
   | none=>
    have HAB:=zE6 e (s:Int) 7 (EngR e p 70 q.c D) (by omega) (zCg e p 70 q.c D s (by omega) hD);simp only [show errV 7=.iface 124 (.int .i64 7) from rfl] at HAB;go_wp2_with (first|(go_at_call 24;(with_reducible refine Does.use hO (HAB) tk_ (du_ ?_);clear hO;(try clear hf);intro x9 w9 hO hf))|(refine sq_ ?_;clear hO;(try clear hf);intro w9 hO hf));all_goals try (exfalso;omega;done)
    exact ⟨⟨s+1,D,by go_num,by omega,Lib.hid (fun t ht=>(Nat.lt_or_ge t s).elim (HD.out t) fun h=>(show t=s by omega) ▸ hD),hO.cut sb_⟩,by simp [intOf];omega⟩
   | some y=>
    have HAB:=zE5 e p 70 q.c D s (by omega) y hD;go_wp2_with (first|(go_at_call 24;(with_reducible refine Does.use hO (HAB) tk_ (du_ ?_);clear hO;(try clear hf);intro x9 w9 hO hf))|(refine sq_ ?_;clear hO;(try clear hf);intro w9 hO hf));all_goals try (exfalso;omega;done)
    exact ⟨⟨s+1,setF D s none,by go_num,by omega,Lib.hid (fun t ht=>by unfold setF;exact (Decidable.em (t=s)).elim (fun h=>if_pos h) fun h=>(if_neg h).trans (HD.out t (by omega))),hO.cut sb_⟩,by simp [intOf];omega⟩
  ·obtain rfl:s=4:=by omega
   have HC:=Lib.hid (HQ.out.c.more (B':=0+l.length) (Nat.le_refl _) (by omega));have hl40:(q.c.at q.c.nn).length≤40:=HC.out.len40;have HR:=zCM e p 70 q.c D (by omega);have HB:=zDU e p 70 q.c D 3 (by omega) (HD.out 3 (by omega));have HDD:=fun z:Nat=>zCZ e p 70 q.c (setF D 3 (some (z,⟨q.c.nn,[],[]⟩))) 3 (by omega) (z,⟨q.c.nn,[],[]⟩) (zGx _ _ _)
   have hd3:∀z:Nat,∀i<4,∀x,setF D 3 (some (z,⟨q.c.nn,[],[]⟩)) i=some x→DeedOk q.c x.2:=fun z i hi x hx=>by
    rcases zA1 hx with ⟨_,h1⟩ | ⟨h0,h1⟩
    ·cases h1;exact HC.out.fresh
    ·rw [show D i=none from HD.out i hi] at h1;cases h1
   have HP1:=Lib.hid (show ∀z,PSOk 70 (0+l.length) ⟨q.c,setF D 3 (some (z,⟨q.c.nn,[],[]⟩)),fun _=>[],[]⟩ from fun z=>⟨HC.out,hd3 z,HQ.out.f⟩);clear hd3;obtain ⟨rs,hrs⟩:∃rs,rs=q.c.at q.c.nn:=⟨_,rfl⟩
   have hup:RUps rs:=by rw [hrs];exact (HC.out.fresh.qr HC.out).ups
   rw [←hrs] at HR hl40;have HRS:=Lib.hid hrs;clear hrs HD HQ;rw [show ((3:Nat):Int)=3 from rfl] at HB;simp only [show ((3:Nat):Int)=3 from rfl] at HDD;go_upto_region 21 with (first|(go_at_call 37;(with_reducible refine Does.use hO (HR) tk_ (du_ ?_);clear hO;(try clear hf);intro x9 w9 hO hf;(obtain ⟨ra,rc⟩:=x9;dsimp only at hO ⊢;replace hO:=hO.rowImm (a:=ra) (n:=rs.length) (c:=rc) (xs:=rs.flatMap rwC) pk_;(replace hf:=fa_ hO))))|(go_at_call 20;(with_reducible refine Does.use hO (HB) tk_ (du_ ?_);clear hO;(try clear hf);intro x9 w9 hO hf;rename Nat=>z))|(go_at_call 30;(with_reducible refine Does.use hO (HDD _) tk_ (du_ ?_);clear hO;(try clear hf);intro x9 w9 hO hf))|(refine sq_ ?_;clear hO;(try clear hf);intro w9 hO hf))
   all_goals try (exfalso;omega;done)
   replace HP1:=Lib.hid (HP1.out z);go_wp2_with (refine sq_ ?_;clear hO hf;intro w9 hO hf);obtain ⟨iA,hiA,hzA,hsA,hbA⟩:=info_parts Tryz.infoPlayAct;have hO9:Own (fun _=>False) W _ [Var g [.string lo,.string hi] 98,EngR e p 70 q.c (setF D 3 (some (z,⟨q.c.nn,[],[]⟩))),zAC p q.c.d,.imm LibOk,.imm (TaArg2 aa l ba ow),.imm (fun w=>ValsAt w ra (rs.flatMap rwC)),Row2 39 9 none 0 0 []]:=(hO.nil 39 9).cut sb_;clear hO hf HR HB HDD;have HD3:=Lib.hid (zGx D 3 (some (z,⟨q.c.nn,[],[]⟩)));generalize setF D 3 (some (z,⟨q.c.nn,[],[]⟩))=D3 at *;rename World=>w2
   go_loopw [16,17] (fun v16 v17 wr=>∃(i:Nat) (oa:Option Addr) (oc:Nat) (O:List Ac),v16=.slice oa O.length oc∧v17=.int .i64 (i:Int)∧i≤ow.length∧Hid (O=(ow.take i).filter fun x=>decide (x.ses≠3))∧
    Own (fun _=>False) W wr [Var g [.string lo,.string hi] 98,EngR e p 70 q.c D3,zAC p q.c.d,.imm LibOk,.imm (TaArg2 aa l ba ow),.imm (fun w=>ValsAt w ra (rs.flatMap rwC)),Row2 39 9 oa O.length oc (O.flatMap acC)]) (fun _ v _=>ow.length+1-(intOf v).toNat)
   case atStart=>exact ⟨0,none,0,[],rfl,rfl,by omega,Lib.hid rfl,hO9⟩
   case round=>
    clear hO9;obtain ⟨i,oa,oc,O,rfl,rfl,hil,HOO,hO⟩:=hrel;rename World=>w3
    (replace hf:=fa_ hO);by_cases hlt9:i<ow.length
    ·obtain ⟨hs1,hs2⟩:=((Own.immOf (φ:=TaArg2 aa l ba ow) hO pk_)).2.2;rcases hs1 with h0 | ⟨b,off,rfl,hcs⟩
     ·rw [h0] at hlt9;simp at hlt9
     have hA:=hcs i hlt9;clear hcs hs2;have hol:O.length≤i:=by
      rw [HOO.out];refine Nat.le_trans (List.length_filter_le _ _) ?_;rw [List.length_take];omega
     have HST:=Lib.hid (zQu (fun x=>decide (x.ses≠3)) ow hlt9);generalize ow[i]=x at *;obtain ⟨s,hs4,hse⟩:=and3 x.c;have hses:=fun b hb=>ses3 (x:=x) hse b hb
     obtain ⟨xkind,xA,xB,xC,xK,xS,xT,xcp,xcc,xch,xsp,xsc,xspn⟩:=x;obtain ⟨k0,k1,k2,k3,k4,k5,k6,k7,k8⟩:=hA;dsimp only at k0 k1 k2 k3 k4 k5 k6 k7 k8 hse;by_cases h3:s=3
     ·subst h3;have HN:=Lib.hid (show O=(ow.take (i+1)).filter (fun x=>decide (x.ses≠3)) by
       rw [HST.out,←HOO.out,hses false rfl];simp)
      clear HST HOO hses;simp only [show ((3:Nat):Int)=3 from rfl] at hse;go_wp2_with (refine sq_ ?_;clear hO;(try clear hf);intro w9 hO hf);all_goals try (exfalso;omega;done)
      exact ⟨⟨i+1,oa,oc,O,rfl,by go_num,by omega,HN,hO.cut sb_⟩,by simp [intOf];omega⟩
     ·have HN:=Lib.hid (show O++[(⟨xkind,xA,xB,xC,xK,xS,xT,xcp,xcc,xch,xsp,xsc,xspn⟩:Ac)]=(ow.take (i+1)).filter (fun x=>decide (x.ses≠3)) by
       rw [HST.out,←HOO.out,hses true (by simp [h3])];simp)
      have h3i:(s:Int)≠3:=by omega
      clear HST HOO hses;go_wp2_with (first|(at_builtin;(refine zAH (e:=39) (size:=9) (xs:=O.flatMap acC) (news:=[.string xkind,.int .i64 xA,.int .i64 xB,.int .i64 xC,.int .u64 xK,.string xS,.string xT,.slice xcp xch.length xcc,.slice xsp xspn.length xsc]) hO pk_ pk_ rfl (.tmp 87) (.tmp 92) 22 rfl iA _ 128 Tryz.underlying22 hiA hzA hsA hbA rfl (by omega) rfl _ _ rfl rfl (by repeat (first | exact zAp | refine zAf rfl ?_)) (by unfold maxLen;omega) (by omega) ?_;clear hO;intro ka9 kc9 w9 hO;(replace hf:=fa_ hO)))|(refine sq_ ?_;clear hO;(try clear hf);intro w9 hO hf));all_goals try (exfalso;omega;done)
      refine And.intro ?_ (by simp [intOf];omega);(repeat apply Exists.intro);refine And.intro ?_ rfl;exact ⟨i+1,ka9,kc9,_,(by rw [List.length_append,List.length_singleton]),by go_num,by omega,HN,(by rw [List.length_append,List.length_singleton,List.flatMap_append,show ([(⟨xkind,xA,xB,xC,xK,xS,xT,xcp,xcc,xch,xsp,xsc,xspn⟩:Ac)]:List Ac).flatMap acC=[.string xkind,.int .i64 xA,.int .i64 xB,.int .i64 xC,.int .u64 xK,.string xS,.string xT,.slice xcp xch.length xcc,.slice xsp xspn.length xsc] from rfl];exact hO.cut sb_)⟩
    ·have hO2:O=ow.filter (fun x=>decide (x.ses≠3)):=by rw [HOO.out,show i=ow.length from by omega,List.take_length]
     have hmem:∀x∈O,x∈ow∧x.ses≠3:=fun x hx=>by
      rw [hO2] at hx;exact ⟨(List.mem_filter.1 hx).1,of_decide_eq_true (List.mem_filter.1 hx).2⟩
     have hol:O.length≤ow.length:=by rw [hO2];exact List.length_filter_le _ _
     replace hO:=(hO.pick (r:=Row2 39 9 oa O.length oc (O.flatMap acC)) pk_).rowIm (.here _ _);replace hO:=(hO.pick (r:=.imm (TaArg2 aa l ba ow)) pk_).again.take (rs:=[.imm (TaArg2 aa l ba ow),.imm (fun w=>ValsAt w oa (O.flatMap acC))]) tk_;simp only [List.cons_append,List.nil_append] at hO;replace hO:=hO.and.imp (ψ:=fun w=>ActsAt w oa O) (fun w h=>ActsAt.ofVals h.2 (fun x hx=>h.1.2.2.2 x (hmem x hx).1));have hpl:0+l.length+O.length≤900:=by omega
     have HPL:=zDa e p 70 (0+l.length) q.c D3 oa oc O HP1.out hpl (fun x hx=>hlo0 x (hmem x hx).1);have HMEM:=Lib.hid hmem;clear hmem hO2 HOO;(replace hf:=fa_ hO);go_upto_region 27 with (first|(go_at_call 53;(with_reducible refine Does.use hO (HPL) tk_ (du_ ?_);clear hO hf;intro x9 w9 hO hf;(obtain ⟨q2,pa,pc,pdl,run2,out2⟩:=x9;dsimp only at hO ⊢;(replace hf:=fa_ hO))))|(refine sq_ ?_;clear hO hf;intro w9 hO hf))
     all_goals try (exfalso;omega;done)
     obtain ⟨g1,g2,g3⟩:=run2.others HP1.out (by omega) (s:=3) (fun a ha=>(HMEM.out a ha).2);dsimp only at g1 g2 g3;have hD2:q2.D 3=some (z,⟨q.c.nn,[],[]⟩):=g1.trans HD3.out;have hat:q2.c.at q.c.nn=rs:=(g3 _ (Nat.le_refl _)).trans HRS.out.symm;have HP2:=run2.ok HP1.out (by omega);have hdd:=HP2.d 3 (by omega) _ hD2;dsimp only at hdd;have hln:(inR lo hi rs).length≤rs.length:=List.length_filter_le _ _;have HSC:=zOo (e:=e) (p:=p) (m:=70) HP2.c (by omega) hD2 hdd lo hi ((100:Nat):Int);obtain ⟨f1,f2,f3⟩:=zOU (L:=inR lo hi rs) (lo:=lo) (hi:=hi) (n:=100) (by omega);dsimp only at HSC;simp only [List.foldl_nil,hat,f1,f2,f3] at HSC;rw [List.take_of_length_le (by omega),show errV 0=.nilIface from rfl] at HSC;simp only [show ((100:Nat):Int)=(100:Int) from rfl] at HSC;clear f1 f2 f3 run2 out2 g1 g2 g3;obtain ⟨s1,hs1⟩:∃s1,s1=scnS (inR lo hi rs) lo hi 100:=⟨_,rfl⟩
     rw [←hs1] at HSC;clear hs1;have hdd1:DeedOk q2.c ⟨q.c.nn,[],[s1]⟩:=⟨hdd.f,hdd.k,hdd.le,⟨hdd.q.ups,hdd.q.c12,by simp,hdd.q.good⟩⟩
     have HGT:=zQ3 (e:=e) (p:=p) (m:=70) (D:=setF q2.D 3 (some (z,⟨q.c.nn,[],[s1]⟩))) (x:=(z,⟨q.c.nn,[],[s1]⟩)) (φ:=LibOk) HP2.c (by omega) (zGx _ _ _) hdd1 key (by omega) (fun _ h=>h);dsimp only at HGT;rw [hat,zDs] at HGT;obtain ⟨R2,hR2⟩:∃R2,R2=getB [] [s1] key:=⟨_,rfl⟩
     have hdd2:DeedOk q2.c ⟨q.c.nn,[],R2⟩:=⟨hdd.f,hdd.k,hdd.le,by rw [hR2];have h9:=hdd1.q;dsimp only at h9 ⊢;exact h9.reads (zH8 h9.r40)⟩
     rw [←hR2] at HGT;have HCM:=zCF e p 70 (0+l.length+O.length) q2.c (setF q2.D 3 (some (z,⟨q.c.nn,[],R2⟩))) HP2.c (by omega) 3 (by omega) (z,⟨q.c.nn,[],R2⟩) (zGx _ _ _) hdd2 HP2.f;rw [show ((3:Nat):Int)=3 from rfl] at HCM;have HIN:=fun a c=>zSo a rs.length c rs lo hi rfl (by omega) (φ:=fun w=>ValsAt w a (rs.flatMap rwC)) fun _ h=>h
     have HVL:=fun xa cap w (h:ValsAt w xa (rs.flatMap rwC))=>zKY xa _ cap rs key w rfl (by omega) h
     clear hdd hdd1 hdd2 hR2 hat hD2 HP2;have hg1:KeyOk key→getG (valR rs key) [] [s1] key=((valR rs key).1,(valR rs key).2,0):=fun hok=>by
      unfold Proofs.YtagcmjmcjpjihaaGreatDoor.getG;rw [if_neg (by rw [zCc hok];simp)];show (if zAY [s1] (Sp.point key)≠0 then _ else _)=_;rw [if_neg (by rw [zI3 _ (by simp)];simp)]
     have hg2:¬KeyOk key→getG (valR rs key) [] [s1] key=(⟨#[]⟩,false,3):=fun hok=>by
      unfold Proofs.YtagcmjmcjpjihaaGreatDoor.getG;rw [if_pos (by rw [zA6 hok];simp),zA6 hok]
     generalize inR lo hi rs=L at *;generalize getG (valR rs key) [] [s1] key=gy at *;generalize valR rs key=y at *;obtain ⟨y1,y2⟩:=y;by_cases hok:KeyOk key
     ·have hg:=hg1 hok;clear hg1 hg2;subst hg;dsimp only at HGT;rw [show errV 0=.nilIface from rfl] at HGT;go_upto_region 35 with (first|(go_at_call 56;(with_reducible refine Does.use hO (HSC) tk_ (du_ ?_);clear hO;(try clear hf);intro x9 w9 hO hf;(obtain ⟨sa,sc⟩:=x9;dsimp only at hO ⊢;replace hO:=hO.rowImm (a:=sa) (n:=L.length) (c:=sc) (xs:=L.flatMap rwC) pk_;(replace hf:=fa_ hO))))|(go_at_call 51;(with_reducible apply Does.use hO (HIN _ _);exact tk_;refine du_ ?_;clear hO;(try clear hf);intro x9 w9 hO hf;(obtain ⟨ia,ic⟩:=x9;dsimp only at hO ⊢;replace hO:=(hO.pick (r:=Row2 177 2 ia L.length ic (L.flatMap rwC)) pk_).rowIm (.here _ _);(replace hf:=fa_ hO))))|(go_at_call 36;(with_reducible apply Calls.mono (zCA sa ia L.length sc ic L _ rfl (by omega) (Own.immOf (φ:=fun w=>ValsAt w sa (L.flatMap rwC)) hO pk_) (Own.immOf (φ:=fun w=>ValsAt w ia (L.flatMap rwC)) hO pk_));refine cu_ ?_;clear hO;(try clear hf);intro w8 hO hf))|(go_at_call 43;(with_reducible refine Does.use hO (HGT) tk_ (du_ ?_);clear hO;(try clear hf);intro x9 w9 hO hf))|(go_at_call 46;(with_reducible refine Own.quiet hO (HVL _ _ _ (Own.immOf (φ:=fun w=>ValsAt w ra (rs.flatMap rwC)) hO pk_)) (ru_ ?_);clear hO;(try clear hf);intro w9 hO hf))|(go_at_call 22;(with_reducible refine Does.use hO (HCM) tk_ (du_ ?_);clear hO;(try clear hf);intro x9 w9 hO hf;(obtain ⟨n',k,c',D',ok,_,_,fz⟩:=x9;dsimp only at hO ⊢;(replace hf:=fa_ hO))))|(refine sq_ ?_;clear hO;(try clear hf);intro w9 hO hf))
      all_goals try (exfalso;omega;done)
      cases ok with
      | none h1=>
       simp only [show errV 0=.nilIface from rfl];go_wp2_with (refine sq_ ?_;clear hO;(try clear hf);intro w9 hO hf);all_goals try (exfalso;omega;done)
       go_ret;exact ⟨rfl,hO.toExt⟩
      | late h1 h2=>exact absurd rfl h1
      | full h1 h2 h3 h4=>exact absurd rfl h1
      | down c' h1 h2 h3 h4=>exact absurd rfl h1
      | done d h R0 W0 u h1 h2 h3 h4 h5=>exact absurd rfl h1
     ·have hg:gy.2.2=3:=by rw [hg2 hok]
      clear hg1 hg2;obtain ⟨u1,u2,u3⟩:=gy;dsimp only at hg HGT;subst hg;simp only [show errV 3=.iface 124 (.int .i64 3) from rfl] at HGT;go_upto_region 32 with (first|(go_at_call 56;(with_reducible refine Does.use hO (HSC) tk_ (du_ ?_);clear hO;(try clear hf);intro x9 w9 hO hf;(obtain ⟨sa,sc⟩:=x9;dsimp only at hO ⊢;replace hO:=hO.rowImm (a:=sa) (n:=L.length) (c:=sc) (xs:=L.flatMap rwC) pk_;(replace hf:=fa_ hO))))|(go_at_call 51;(with_reducible apply Does.use hO (HIN _ _);exact tk_;refine du_ ?_;clear hO;(try clear hf);intro x9 w9 hO hf;(obtain ⟨ia,ic⟩:=x9;dsimp only at hO ⊢;replace hO:=(hO.pick (r:=Row2 177 2 ia L.length ic (L.flatMap rwC)) pk_).rowIm (.here _ _);(replace hf:=fa_ hO))))|(go_at_call 36;(with_reducible apply Calls.mono (zCA sa ia L.length sc ic L _ rfl (by omega) (Own.immOf (φ:=fun w=>ValsAt w sa (L.flatMap rwC)) hO pk_) (Own.immOf (φ:=fun w=>ValsAt w ia (L.flatMap rwC)) hO pk_));refine cu_ ?_;clear hO;(try clear hf);intro w8 hO hf))|(go_at_call 43;(with_reducible refine Does.use hO (HGT) tk_ (du_ ?_);clear hO;(try clear hf);intro x9 w9 hO hf))|(go_at_call 46;(with_reducible refine Own.quiet hO (HVL _ _ _ (Own.immOf (φ:=fun w=>ValsAt w ra (rs.flatMap rwC)) hO pk_)) (ru_ ?_);clear hO;(try clear hf);intro w9 hO hf))|(go_at_call 22;(with_reducible refine Does.use hO (HCM) tk_ (du_ ?_);clear hO;(try clear hf);intro x9 w9 hO hf;(obtain ⟨n',k,c',D',ok,_,_,fz⟩:=x9;dsimp only at hO ⊢;(replace hf:=fa_ hO))))|(refine sq_ ?_;clear hO;(try clear hf);intro w9 hO hf))
      all_goals try (exfalso;omega;done)
      go_wp2_with (refine sq_ ?_;clear hO hf;intro w9 hO hf);go_upto_region 35 with (first|(go_at_call 56;(with_reducible refine Does.use hO (HSC) tk_ (du_ ?_);clear hO hf;intro x9 w9 hO hf;(obtain ⟨sa,sc⟩:=x9;dsimp only at hO ⊢;replace hO:=hO.rowImm (a:=sa) (n:=L.length) (c:=sc) (xs:=L.flatMap rwC) pk_;(replace hf:=fa_ hO))))|(go_at_call 51;(with_reducible apply Does.use hO (HIN _ _);exact tk_;refine du_ ?_;clear hO hf;intro x9 w9 hO hf;(obtain ⟨ia,ic⟩:=x9;dsimp only at hO ⊢;replace hO:=(hO.pick (r:=Row2 177 2 ia L.length ic (L.flatMap rwC)) pk_).rowIm (.here _ _);(replace hf:=fa_ hO))))|(go_at_call 36;(with_reducible apply Calls.mono (zCA sa ia L.length sc ic L _ rfl (by omega) (Own.immOf (φ:=fun w=>ValsAt w sa (L.flatMap rwC)) hO pk_) (Own.immOf (φ:=fun w=>ValsAt w ia (L.flatMap rwC)) hO pk_));refine cu_ ?_;clear hO hf;intro w8 hO hf))|(go_at_call 43;(with_reducible refine Does.use hO (HGT) tk_ (du_ ?_);clear hO hf;intro x9 w9 hO hf))|(go_at_call 46;(with_reducible refine Own.quiet hO (HVL _ _ _ (Own.immOf (φ:=fun w=>ValsAt w ra (rs.flatMap rwC)) hO pk_)) (ru_ ?_);clear hO hf;intro w9 hO hf))|(go_at_call 22;(with_reducible refine Does.use hO (HCM) tk_ (du_ ?_);clear hO hf;intro x9 w9 hO hf;(obtain ⟨n',k,c',D',ok,_,_,fz⟩:=x9;dsimp only at hO ⊢;(replace hf:=fa_ hO))))|(refine sq_ ?_;clear hO hf;intro w9 hO hf))
      all_goals try (exfalso;omega;done)
      cases ok with
      | none h1=>
       simp only [show errV 0=.nilIface from rfl];go_wp2_with (refine sq_ ?_;clear hO;(try clear hf);intro w9 hO hf);all_goals try (exfalso;omega;done)
       go_ret;exact ⟨rfl,hO.toExt⟩
      | late h1 h2=>exact absurd rfl h1
      | full h1 h2 h3 h4=>exact absurd rfl h1
      | down c' h1 h2 h3 h4=>exact absurd rfl h1
      | done d h R0 W0 u h1 h2 h3 h4 h5=>exact absurd rfl h1
