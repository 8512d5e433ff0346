/- Texts TopTaken of this claim, laid together. -/
import Derived.Test.YtagcmjmcjpjihaaGreatDoorHTa4
import Derived.Test.YtagcmjmcjpjihaaGreatDoorHTa10
set_option linter.unusedVariables false
set_option linter.unusedSimpArgs false
set_option linter.unnecessarySimpa false
set_option maxHeartbeats 8000000
set_option maxRecDepth 100000
namespace Go.Proofs.YtagcmjmcjpjihaaGreatDoor
open Go.RowKit Go.Lib
def TnArg (a:Option Addr) (l:List Int) (w:World):Prop:=LibOk w∧ValsAt w a (l.map (.int .i64))
theorem TnArg.base {a:Option Addr} {l:List Int} {w:World} (h:TnArg a l w):Own (fun _=>False) w w [.imm (TnArg a l)]:=
 Own.base w _ fun w' hw'=>⟨h.1.up hw',zDb h.2 hw'⟩
def tkB (n i:Nat):Value:=.bool (decide (i+1<n))
theorem IF4:(∀M b,setI M 0 b 0=b)∧(∀M b,setI M 0 b 1=M 1)∧(∀M b,setI M 0 b 2=M 2)∧(∀M b,setI M 0 b 3=M 3)∧(∀M b,setI M 1 b 0=M 0)∧(∀M b,setI M 1 b 1=b)∧(∀M b,setI M 1 b 2=M 2)∧(∀M b,setI M 1 b 3=M 3)∧
 (∀M b,setI M 2 b 0=M 0)∧(∀M b,setI M 2 b 1=M 1)∧(∀M b,setI M 2 b 2=b)∧(∀M b,setI M 2 b 3=M 3)∧(∀M b,setI M 3 b 0=M 0)∧(∀M b,setI M 3 b 1=M 1)∧(∀M b,setI M 3 b 2=M 2)∧(∀M b,setI M 3 b 3=b):=
 ⟨fun _ _=>rfl,fun _ _=>rfl,fun _ _=>rfl,fun _ _=>rfl,fun _ _=>rfl,fun _ _=>rfl,fun _ _=>rfl,fun _ _=>rfl,fun _ _=>rfl,fun _ _=>rfl,fun _ _=>rfl,fun _ _=>rfl,fun _ _=>rfl,fun _ _=>rfl,fun _ _=>rfl,fun _ _=>rfl⟩
theorem zUw (f:Nat→Ms) (j n:Nat):(msL f j n).length=n-j:=by unfold msL;rw [List.length_map,List.length_range']
theorem TB:(tkB 1 0=.bool false)∧(tkB 1 1=.bool false)∧(tkB 1 2=.bool false)∧(tkB 1 3=.bool false)∧(tkB 1 4=.bool false)∧(tkB 2 0=.bool true)∧(tkB 2 1=.bool false)∧(tkB 2 2=.bool false)∧(tkB 2 3=.bool false)∧(tkB 2 4=.bool false)∧(tkB 3 0=.bool true)∧(tkB 3 1=.bool true)∧(tkB 3 2=.bool false)∧(tkB 3 3=.bool false)∧(tkB 3 4=.bool false)∧(tkB 4 0=.bool true)∧(tkB 4 1=.bool true)∧(tkB 4 2=.bool true)∧(tkB 4 3=.bool false)∧(tkB 4 4=.bool false)∧(tkB 5 0=.bool true)∧(tkB 5 1=.bool true)∧(tkB 5 2=.bool true)∧(tkB 5 3=.bool true)∧(tkB 5 4=.bool false)∧(tkB 6 0=.bool true)∧(tkB 6 1=.bool true)∧(tkB 6 2=.bool true)∧(tkB 6 3=.bool true)∧(tkB 6 4=.bool true):=⟨rfl,rfl,rfl,rfl,rfl,rfl,rfl,rfl,rfl,rfl,rfl,rfl,rfl,rfl,rfl,rfl,rfl,rfl,rfl,rfl,rfl,rfl,rfl,rfl,rfl,rfl,rfl,rfl,rfl,rfl⟩
theorem zUm (mi:Int) (a:Option Addr) (n cap:Nat) (l:List Int) (W:World) (hφ:TnArg a l W) (hl:l.length=n) (hn:n≤9223372036854775807) :
 Calls Tryz.prog 6 #[.int .i64 mi,.slice a n cap] W fun e w'=>e=.returned (.bool true)∧Ext W w':=by
 have hO:=(hφ.base.again).imp (ψ:=LibOk) fun _ h=>h.1
 have HG:=fun w (h:TnArg a l w)=>zEL w h.1
 have HS:=zCX 70 (by omega) (by omega);rw [show ((70:Nat):Int)+50=120 from rfl] at HS;(replace hf:=fa_ hO);go_enter Tryz.func6,Tryz.ntmps6;by_cases h60:0≤mi∧mi≤5∧n≤40
 case neg=>
  go_wp2_with (first|(go_at_call 42;(with_reducible apply Calls.mono (HG _ (Own.immOf (φ:=TnArg a l) hO pk_));refine cu_ ?_;clear hO;(try clear hf);intro w8 hO hf))|(refine sq_ ?_;clear hO;(try clear hf);intro w9 hO hf));all_goals try (exfalso;omega;done)
  all_goals
   go_ret;exact ⟨rfl,hO.toExt⟩
 obtain ⟨h0,h5i,h40⟩:=h60;obtain ⟨many,rfl⟩:∃k:Nat,mi=(k:Int):=⟨mi.toNat,by omega⟩
 have h5:many≤5:=by omega
 have H0:=CoreOk.start (m:=70) (by omega) (by omega);obtain ⟨f1,f2,f3,f4,f5⟩:=zCo 70;obtain ⟨c0,hc⟩:∃c,c=Core.new (newD (70+50)) newH [] [] 0:=⟨_,rfl⟩
 rw [←hc] at HS H0 f1 f2 f3 f4 f5;rw [←f3] at HS;clear hc f3;have hat0:c0.at c0.nn=[]:=by rw [f1];exact f2
 have HB:=fun e p=>zDU e p 70 c0 (fun _=>none) 0 (by omega) rfl
 have HDD:=fun e p q=>zCZ e p 70 c0 (setF (fun _=>none) 0 (some (q,⟨c0.nn,[],[]⟩))) 0 (by omega) (q,⟨c0.nn,[],[]⟩) rfl
 obtain ⟨C1,R1,e1,d1⟩:=zVV many h5;have HCR:=fun e p q=>zVE (e:=e) (p:=p) (m:=70) (D:=setF (fun _=>none) 0 (some (q,⟨c0.nn,[],[]⟩))) (i:=0) (x:=(q,⟨c0.nn,[],[]⟩)) (φ:=LibOk) (name:=qN) (dead:=⟨#[]⟩) (tries:=9) H0 (by omega) rfl H0.fresh (by decide) (by decide) (by dsimp only;rw [hat0];exact e1) (fun _ h=>h)
 simp only [zDs] at HCR;simp only [show ((0:Nat):Int)=0 from rfl,show ((1:Nat):Int)=1 from rfl,show ((2:Nat):Int)=2 from rfl,show ((3:Nat):Int)=3 from rfl] at HB;simp only [show ((0:Nat):Int)=0 from rfl,show ((1:Nat):Int)=1 from rfl,show ((2:Nat):Int)=2 from rfl,show ((3:Nat):Int)=3 from rfl] at HDD;rw [show qN=(⟨#[113]⟩:ByteArray) from rfl] at HCR;have HD1:=Lib.hid d1;have HH:=Lib.hid (show CoreOk 70 0 c0∧c0.nn=0∧c0.at 0=[]∧c0.d.fuse=-1∧c0.at c0.nn=[] from ⟨H0,f1,f2,f4,hat0⟩);clear H0 f1 f2 f4 f5 hat0 e1 d1;go_wp2_with (first|(go_at_call 42;(with_reducible apply Calls.mono (HG _ (Own.immOf (φ:=TnArg a l) hO pk_));refine cu_ ?_;clear hO;(try clear hf);intro w8 hO hf))|(go_at_call 17;(with_reducible refine Does.use hO (HS) tk_ (du_ ?_);clear hO;(try clear hf);intro x9 w9 hO hf;(obtain ⟨p,e⟩:=x9;dsimp only at hO ⊢;(replace hf:=fa_ hO))))|(go_at_call 20;(with_reducible refine Does.use hO (HB _ _) tk_ (du_ ?_);clear hO;(try clear hf);intro x9 w9 hO hf;rename Nat=>z))|(go_at_call 30;(with_reducible refine Does.use hO (HDD _ _ _) tk_ (du_ ?_);clear hO;(try clear hf);intro x9 w9 hO hf))|(go_at_call 47;(with_reducible refine Does.use hO (HCR _ _ _) tk_ (du_ ?_);clear hO;(try clear hf);intro x9 w9 hO hf))|(refine sq_ ?_;clear hO;(try clear hf);intro w9 hO hf));all_goals try (exfalso;omega;done)
 have hO9:Own (fun _=>False) W _ [EngR e p 70 c0 (setF (fun _=>none) 0 (some (z,⟨c0.nn,C1,R1⟩))),zAC p c0.d,.imm LibOk,.imm (TnArg a l)]:=hO.cut sb_;clear hO hf;go_loopw [10] (fun v10 wr=>∃(i:Nat) (C:List Ch) (R:List Sp),v10=.int .i64 (i:Int)∧i≤many∧Hid (Deed [] (kM many) (zT6 0 i) (1+i) C R)∧Own (fun _=>False) W wr [EngR e p 70 c0 (setF (fun _=>none) 0 (some (z,⟨c0.nn,C,R⟩))),zAC p c0.d,.imm LibOk,.imm (TnArg a l)]) (fun v _=>many+1-(intOf v).toNat)
 case atStart=>exact ⟨0,C1,R1,rfl,by omega,HD1,hO9⟩
 case round=>
  clear hO9;obtain ⟨i,C,R,rfl,hi,HDI,hO⟩:=hrel;rename World=>w1
  (replace hf:=fa_ hO);have hdk:DeedOk c0 ⟨c0.nn,C,R⟩:=⟨HH.out.1.fresh.f,HH.out.1.fresh.k,HH.out.1.fresh.le,HDI.out.inv⟩
  by_cases hlt:i<many
  ·obtain ⟨C',e2,d2⟩:=zVe h5 hlt (by omega) HDI.out;have HSD:=zVb (e:=e) (p:=p) (m:=70) (D:=setF (fun _=>none) 0 (some (z,⟨c0.nn,C,R⟩))) (i:=0) (x:=(z,⟨c0.nn,C,R⟩)) (φ:=LibOk) (name:=qN) (body:=⟨#[120]⟩) (til:=0) HH.out.1 (by omega) rfl hdk (by decide) (by dsimp only;rw [HH.out.2.2.2.2];exact e2) (fun _ h=>h);simp only [zDs] at HSD;generalize zAI C R qN=R2 at HSD d2;have HN:=Lib.hid d2;rw [show qN=(⟨#[113]⟩:ByteArray) from rfl] at HSD;clear e2 d2 hdk;go_wp2_with (first|(go_at_call 48;(with_reducible refine Does.use hO (HSD) tk_ (du_ ?_);clear hO;(try clear hf);intro x9 w9 hO hf))|(refine sq_ ?_;clear hO;(try clear hf);intro w9 hO hf));all_goals try (exfalso;omega;done)
   exact ⟨⟨i+1,C',_,by go_num,by omega,HN,hO.cut sb_⟩,by simp [intOf];omega⟩
  ·obtain rfl:many=i:=by omega
   have HCM:=zCF e p 70 0 c0 (setF (fun _=>none) 0 (some (z,⟨c0.nn,C,R⟩))) HH.out.1 (by omega) 0 (by omega) (z,⟨c0.nn,C,R⟩) rfl hdk HH.out.2.2.2.1;simp only [show ((0:Nat):Int)=0 from rfl,show ((1:Nat):Int)=1 from rfl,show ((2:Nat):Int)=2 from rfl,show ((3:Nat):Int)=3 from rfl] at HCM;clear hdk;go_upto_region 19 with (first|(go_at_call 22;(with_reducible refine Does.use hO (HCM) tk_ (du_ ?_);clear hO;(try clear hf);intro x9 w9 hO hf;(obtain ⟨n',k,c',D',ok,_,_,fz⟩:=x9;dsimp only at hO ⊢;(replace hf:=fa_ hO))))|(refine sq_ ?_;clear hO;(try clear hf);intro w9 hO hf))
   all_goals try (exfalso;omega;done)
   have hne:=HDI.out.not_nil (zVP _ _);have hfit:zAl (c0.at c0.nn) C 70=0:=HDI.out.inv.fits (by rw [HH.out.2.2.2.2,HDI.out.see];have:=zUD (k:=0) h5;omega) (by omega);cases ok with
   | none h1=>exact absurd h1 hne
   | late h1 h2=>rw [zUv HH.out.1] at h2;cases h2
   | full h1 h2 h3 h4=>exact absurd hfit h3
   | down c' h1 h2 h3 h4=>exact absurd HH.out.2.2.2.1 h4
   | done d h R0 W0 u h1 h2 h3 h4 h5'=>
    dsimp only at hO h4 fz;rw [zDs] at hO h4 fz;have HT:=Tk.start (D:=setF (fun _=>Option.none) 0 Option.none) h5 HH.out.1 HH.out.2.1 HH.out.2.2.1 HDI.out (fun _=>0) (d:=d) (hd':=h) (R0:=R0) (W0:=W0) (u:=u) (t:=zA5 (c0.nn+1) (setF (fun _=>Option.none) 0 Option.none)) (fun i hi=>by unfold setF;split<;>rfl);have hnn:(c0.com C d h R0 W0 u (zA5 (c0.nn+1) (setF (fun _=>Option.none) 0 Option.none))).nn=1:=by show c0.nn+1=1;rw [HH.out.2.1]
    generalize c0.com C d h R0 W0 u (zA5 (c0.nn+1) (setF (fun _=>Option.none) 0 Option.none))=c1 at *;have HI0:=Lib.hid (show CoreOk 70 (1+0) c1∧Tk many c1 (setF (fun _=>Option.none) 0 Option.none) (fun _=>0)∧c1.d.fuse=-1 from ⟨h4,HT,fz⟩);have HN1:=Lib.hid hnn;clear h1 h2 h3 h4 h5' HT hnn hfit hne HDI;generalize setF (fun _=>Option.none) 0 Option.none=D1 at *;simp only [show errV 0=.nilIface from rfl];go_upto_region 23 with (first|(refine sq_ ?_;clear hO;(try clear hf);intro w9 hO hf))
    obtain ⟨g,hg9⟩:=(hO.pick (r:=Var _ [.bool false,.bool false,.bool false,.bool false,.bool false] 89) pk_).named;rw [←hg9];rw [←hg9] at hO;clear hg9;obtain ⟨gh,hg9⟩:=(hO.pick (r:=Var _ [.int .i64 0,.int .i64 0,.int .i64 0,.int .i64 0] 90) pk_).named;rw [←hg9];rw [←hg9] at hO;clear hg9;(replace hf:=fa_ hO);go_wp2_with (refine sq_ ?_;clear hO hf;intro w9 hO hf);have hO9:Own (fun _=>False) W _ [Var g [.bool false,.bool false,.bool false,.bool false,.bool false] 89,Var gh [.int .i64 0,.int .i64 0,.int .i64 0,.int .i64 0] 90,EngR e p 70 c1 D1,zAC p c1.d,.imm LibOk,.imm (TnArg a l)]:=hO.cut sb_;clear hO hf;clear HH;go_loopw [15] (fun v15 wr=>∃(i:Nat) (c:Core) (D:Nat→Option (Nat×Dv)) (M:Nat→Int),v15=.int .i64 (i:Int)∧i≤n∧Hid (CoreOk 70 (1+i) c∧Tk many c D M∧c.d.fuse=-1)∧Own (fun _=>False) W wr [Var g [tkB c.nn 0,tkB c.nn 1,tkB c.nn 2,tkB c.nn 3,tkB c.nn 4] 89,Var gh [.int .i64 (M 0),.int .i64 (M 1),.int .i64 (M 2),.int .i64 (M 3)] 90,EngR e p 70 c D,zAC p c.d,.imm LibOk,.imm (TnArg a l)]) (fun v _=>n+1-(intOf v).toNat)
    case atStart=>exact ⟨0,c1,D1,_,rfl,by omega,HI0,(by rw [HN1.out];exact hO9)⟩
    case round=>
     clear hO9 HI0 HN1;obtain ⟨i,c,D,M,rfl,hi,HI,hO⟩:=hrel;rename World=>w2
     (replace hf:=fa_ hO);by_cases hlt9:i<n
     ·skip;have hn2:i<(l.map (Value.int .i64)).length:=by rw [List.length_map];omega
      have hg:=List.getElem?_eq_getElem hn2;rw [List.getElem_map] at hg;obtain ⟨b,off,rfl⟩:=ValsAt.some (Own.immOf (φ:=TnArg a l) hO pk_).2 hg;have c9:=ValsAt.get (Own.immOf (φ:=TnArg (some ⟨b,off,none⟩) l) hO pk_).2 hg;obtain ⟨s,hs4,hse⟩:=and3 (l[i]'(by omega));generalize l[i]'(by omega)=t at *;clear hg hn2;obtain ⟨H,HC,hf0⟩:=HI.out;clear HI;cases hD:D s with
      | none=>
       have HB:=zDU e p 70 c D s hs4 hD;have HDD:=fun q=>zCZ e p 70 c (setF D s (some (q,⟨c.nn,[],[]⟩))) s hs4 (q,⟨c.nn,[],[]⟩) (zGx _ _ _)
       have hrows:=HC.rows _ HC.n1 (Nat.le_refl _);by_cases hk:c.nn-1<many
       ·obtain ⟨C,R,R',hrv,hqi,hak,hR',hqi',hany⟩:=zVh h5 hk;have hdd:DeedOk c ⟨c.nn,C,R⟩:=⟨H.fresh.f,H.fresh.k,H.fresh.le,hqi⟩
        have HRV:=fun q=>zUz (e:=e) (p:=p) (x:=(q,⟨c.nn,[],[]⟩)) (φ:=LibOk) (name:=qN) (now:=0) (long:=0) H hs4 (zGx D s (some (q,⟨c.nn,[],[]⟩))) H.fresh (by decide) (by dsimp only;rw [hrows];exact hrv) (fun _ h=>h)
        have HAK:=fun q=>zVf (e:=e) (p:=p) (x:=(q,⟨c.nn,C,R⟩)) (φ:=LibOk) (name:=qN) (n:=((c.nn-1:Nat):Int)) (tries:=1) H hs4 (zGx D s (some (q,⟨c.nn,C,R⟩))) hdd (by decide) (by dsimp only;rw [hrows];exact hak) (fun _ h=>h)
        simp only [hrows,←hR',zDs] at HRV HAK;rw [show errV 0=.nilIface from rfl,show ((fM (c.nn-1)).more 0).v=.agg #[.int .i64 ((c.nn-1:Nat):Int),.int .i64 1,.int .i64 0,.string ⟨#[120]⟩] from rfl] at HRV;rw [show qN=(⟨#[113]⟩:ByteArray) from rfl] at HRV HAK;have HN:=Lib.hid (show CoreOk 70 (1+(i+1)) c∧(∀q,Tk many c (setF D s (some (q,⟨c.nn,[zT7 (c.nn-1)],R'⟩))) (setI M s ((c.nn-1:Nat):Int)))∧c.d.fuse=-1 from ⟨H.more (by omega) (by omega),fun q=>HC.took H hk hqi' hany s q,hf0⟩);clear H HC hf0 hD hrv hqi hak hR' hqi' hany hdd hrows;generalize zT7 (c.nn-1)=gm at *;rcases zCT hs4 with rfl | rfl | rfl | rfl
        all_goals
         as_aux_lemma=>
          simp only [show ((0:Nat):Int)=0 from rfl,show ((1:Nat):Int)=1 from rfl,show ((2:Nat):Int)=2 from rfl,show ((3:Nat):Int)=3 from rfl] at HB;simp only [show ((0:Nat):Int)=0 from rfl,show ((1:Nat):Int)=1 from rfl,show ((2:Nat):Int)=2 from rfl,show ((3:Nat):Int)=3 from rfl] at HDD;simp only [show ((0:Nat):Int)=0 from rfl,show ((1:Nat):Int)=1 from rfl,show ((2:Nat):Int)=2 from rfl,show ((3:Nat):Int)=3 from rfl] at hse;go_wp2_with (first|(go_at_call 20;(with_reducible refine Does.use hO (HB) tk_ (du_ ?_);clear hO;(try clear hf);intro x9 w9 hO hf;rename Nat=>q9))|(go_at_call 30;(with_reducible refine Does.use hO (HDD _) tk_ (du_ ?_);clear hO;(try clear hf);intro x9 w9 hO hf))|(go_at_call 49;(with_reducible refine Does.use hO (HRV _) tk_ (du_ ?_);clear hO;(try clear hf);intro x9 w9 hO hf))|(go_at_call 50;(with_reducible refine Does.use hO (HAK _) tk_ (du_ ?_);clear hO;(try clear hf);intro x9 w9 hO hf))|(refine sq_ ?_;clear hO;(try clear hf);intro w9 hO hf));all_goals try (exfalso;omega;done)
          exact ⟨⟨i+1,c,_,_,by go_num,by omega,Lib.hid ⟨HN.out.1,HN.out.2.1 q9,HN.out.2.2⟩,(by simp only [IF4];exact hO.cut sb_)⟩,by simp [intOf];omega⟩
       ·obtain ⟨R,hrv,hqi⟩:=zVg h5 (Nat.le_of_not_lt hk);have HRV:=fun q=>zUz (e:=e) (p:=p) (x:=(q,⟨c.nn,[],[]⟩)) (φ:=LibOk) (name:=qN) (now:=0) (long:=0) H hs4 (zGx D s (some (q,⟨c.nn,[],[]⟩))) H.fresh (by decide) (by dsimp only;rw [hrows];exact hrv) (fun _ h=>h)
        simp only [zDs] at HRV;simp only [show errV 12=.iface 124 (.int .i64 12) from rfl,show Ms.z.v=.agg #[.int .i64 0,.int .i64 0,.int .i64 0,.string ⟨#[]⟩] from rfl] at HRV;rw [show qN=(⟨#[113]⟩:ByteArray) from rfl] at HRV;have HN12:∀w,Calls Tryz.prog 45 #[errV 12] w fun e w'=>e=.returned (.int .i64 12)∧w'=w:=fun w=>zEZ 12 w (by omega)
        simp only [show errV 12=.iface 124 (.int .i64 12) from rfl] at HN12;have HN:=Lib.hid (show CoreOk 70 (1+(i+1)) c∧(∀q,Tk many c (setF D s (some (q,⟨c.nn,[],R⟩))) (setI M s (-1)))∧c.d.fuse=-1 from ⟨H.more (by omega) (by omega),fun q=>HC.none H hqi s q,hf0⟩);clear H HC hf0 hD hrv hqi hrows;rcases zCT hs4 with rfl | rfl | rfl | rfl
        all_goals
         as_aux_lemma=>
          simp only [show ((0:Nat):Int)=0 from rfl,show ((1:Nat):Int)=1 from rfl,show ((2:Nat):Int)=2 from rfl,show ((3:Nat):Int)=3 from rfl] at HB;simp only [show ((0:Nat):Int)=0 from rfl,show ((1:Nat):Int)=1 from rfl,show ((2:Nat):Int)=2 from rfl,show ((3:Nat):Int)=3 from rfl] at HDD;simp only [show ((0:Nat):Int)=0 from rfl,show ((1:Nat):Int)=1 from rfl,show ((2:Nat):Int)=2 from rfl,show ((3:Nat):Int)=3 from rfl] at hse;go_wp2_with (first|(go_at_call 20;(with_reducible refine Does.use hO (HB) tk_ (du_ ?_);clear hO;(try clear hf);intro x9 w9 hO hf;rename Nat=>q9))|(go_at_call 30;(with_reducible refine Does.use hO (HDD _) tk_ (du_ ?_);clear hO;(try clear hf);intro x9 w9 hO hf))|(go_at_call 49;(with_reducible refine Does.use hO (HRV _) tk_ (du_ ?_);clear hO;(try clear hf);intro x9 w9 hO hf))|(go_at_call 45;(with_reducible apply Calls.mono (HN12 _);rintro e8 w8 ⟨rfl,rfl⟩;dsimp only))|(refine sq_ ?_;clear hO;(try clear hf);intro w9 hO hf));all_goals try (exfalso;omega;done)
          exact ⟨⟨i+1,c,_,_,by go_num,by omega,Lib.hid ⟨HN.out.1,HN.out.2.1 q9,HN.out.2.2⟩,(by simp only [IF4];exact hO.cut sb_)⟩,by simp [intOf];omega⟩
      | some x=>
       obtain ⟨hx,hx1,hxc⟩:=HC.deeds s hs4 x hD;have HB:=zNM e p 70 c D s hs4 x hD;have HCM:=zCF e p 70 (1+i) c D H (by omega) s hs4 x hD hx hf0;simp only [show errV 7=.iface 124 (.int .i64 7) from rfl] at HB;have HN9:∀w,Calls Tryz.prog 45 #[errV 9] w fun e w'=>e=.returned (.int .i64 9)∧w'=w:=fun w=>zEZ 9 w (by omega)
       simp only [show errV 9=.iface 124 (.int .i64 9) from rfl] at HN9;have HH:=Lib.hid (show CoreOk 70 (1+i) c∧Tk many c D M∧c.d.fuse=-1 from ⟨H,HC,hf0⟩);have HX:=Lib.hid (show DeedOk c x.2∧1≤x.2.since from ⟨hx,hx1⟩);have HXC:=Lib.hid hxc;clear H HC hf0 hD hx hx1 hxc;go_upto_region 40 with (first|(go_at_call 20;(with_reducible refine Does.use hO (HB) tk_ (du_ ?_);clear hO;(try clear hf);intro x9 w9 hO hf))|(go_at_call 22;(with_reducible refine Does.use hO (HCM) tk_ (du_ ?_);clear hO;(try clear hf);intro x9 w9 hO hf;(obtain ⟨n',k,c',D',ok,_,_,fz⟩:=x9;dsimp only at hO ⊢;(replace hf:=fa_ hO))))|(refine sq_ ?_;clear hO;(try clear hf);intro w9 hO hf))
       all_goals try (exfalso;omega;done)
       cases ok with
       | none h1=>
        have hM:M s=-1:=by
         rcases HXC.out with ⟨_,_,h,_⟩ | ⟨h,_⟩
         ·rw [h] at h1;cases h1
         ·exact h
        have HN:=Lib.hid (show CoreOk 70 (1+(i+1)) c∧Tk many c (setF D s none) M∧c.d.fuse=-1 from ⟨HH.out.1.more (by omega) (by omega),HH.out.2.1.off _,HH.out.2.2⟩);clear HH HX HXC h1;simp only [show errV 0=.nilIface from rfl];rcases zCT hs4 with rfl | rfl | rfl | rfl
        all_goals
         as_aux_lemma=>
          simp only [show ((0:Nat):Int)=0 from rfl,show ((1:Nat):Int)=1 from rfl,show ((2:Nat):Int)=2 from rfl,show ((3:Nat):Int)=3 from rfl] at hse;rw [hM] at hO;(replace hf:=fa_ hO);go_wp2_with (refine sq_ ?_;clear hO hf;intro w9 hO hf);all_goals try (exfalso;omega;done)
          exact ⟨⟨i+1,c,_,M,by go_num,by omega,HN,(by rw [hM];exact hO.cut sb_)⟩,by simp [intOf];omega⟩
       | down c' h1 h2 h3 h4=>exact absurd HH.out.2.2 h4
       | late h1 h2=>
        simp only [show errV 9=.iface 124 (.int .i64 9) from rfl];go_wp2_with (first|(go_at_call 45;(with_reducible apply Calls.mono (HN9 _);rintro e8 w8 ⟨rfl,rfl⟩;dsimp only))|(refine sq_ ?_;clear hO;(try clear hf);intro w9 hO hf));all_goals try (exfalso;omega;done)
        exact ⟨⟨i+1,c,_,M,by go_num,by omega,Lib.hid ⟨HH.out.1.more (by omega) (by omega),HH.out.2.1.off _,HH.out.2.2⟩,hO.cut sb_⟩,by simp [intOf];omega⟩
       | full h1 h2 h3 h4=>
        rcases HXC.out with ⟨hk,hM,hxC,hxR⟩ | ⟨_,hxC⟩
        ·have he:=HH.out.2.1.clear HH.out.1 HX.out.1 HX.out.2 hxR h2;rw [he] at hk hxC;refine absurd (HH.out.2.1.fits h5 hk (m:=70) (by omega)) ?_;rw [hxC] at h3;exact h3
        ·exact absurd hxC h1
       | done d h R0 W0 u h1 h2 h3 h4 h5'=>
        rcases HXC.out with ⟨hk,hM,hxC,hxR⟩ | ⟨_,hxC⟩
        case inr=>exact absurd hxC h1
        have he:=HH.out.2.1.clear HH.out.1 HX.out.1 HX.out.2 hxR h2;rw [he] at hk hM hxC;rw [hxC] at h4 hO;have HTK:=HH.out.2.1.com HH.out.1 h5 s hk (d:=d) (hd:=h) (R0:=R0) (W0:=W0) (u:=u) rfl;have hn1:=HH.out.2.1.n1;obtain ⟨c2,hc2⟩:∃c2,c2=c.com [zT7 (c.nn-1)] d h R0 W0 u (zA5 (c.nn+1) (setF D s none)):=⟨_,rfl⟩
        have hnn2:c2.nn=c.nn+1:=by rw [hc2];rfl
        have hfz:c2.d.fuse=-1:=by rw [hc2];exact h5' HH.out.2.2
        rw [←hc2] at h4 hO HTK;have HNX:=Lib.hid (show CoreOk 70 (1+(i+1)) c2∧Tk many c2 (setF D s none) M∧c2.d.fuse=-1 from ⟨h4,HTK,hfz⟩);clear h1 h2 h3 h4 h5' HTK hxC HXC hxR HX hc2 he hfz fz;simp only [show errV 0=.nilIface from rfl];rcases (show c.nn=1∨c.nn=2∨c.nn=3∨c.nn=4∨c.nn=5 by omega) with hk1 | hk1 | hk1 | hk1 | hk1
        all_goals
         rw [hk1] at hO hk hM hnn2;simp only [TB] at hO;simp only [Nat.reduceSub,Nat.reduceAdd,show ((0:Nat):Int)=0 from rfl,show ((1:Nat):Int)=1 from rfl,show ((2:Nat):Int)=2 from rfl,show ((3:Nat):Int)=3 from rfl,show ((4:Nat):Int)=4 from rfl] at hM hnn2 hk;rcases zCT hs4 with rfl | rfl | rfl | rfl
         all_goals
          as_aux_lemma=>
           simp only [show ((0:Nat):Int)=0 from rfl,show ((1:Nat):Int)=1 from rfl,show ((2:Nat):Int)=2 from rfl,show ((3:Nat):Int)=3 from rfl] at hse;rw [hM] at hO;(replace hf:=fa_ hO);go_wp2_with (refine sq_ ?_;clear hO hf;intro w9 hO hf);all_goals try (exfalso;omega;done)
           exact ⟨⟨i+1,c2,_,M,by go_num,by omega,HNX,(by rw [hnn2,hM];simp only [TB];exact hO.cut sb_)⟩,by simp [intOf];omega⟩
     ·obtain ⟨H,HC,hf0⟩:=HI.out;have hn1:=HC.n1;have hn2:=HC.n2;have hrows:=HC.rows _ HC.n1 (Nat.le_refl _);have hrl:=zUD (k:=c.nn-1) h5;have hml:(inR (loB qN) (hiB qN) (zT6 (c.nn-1) many)).length=many-(c.nn-1):=by rw [zUM h5,zUw]
      have HR:=zCM e p 70 c D (by rw [hrows];omega);rw [hrows] at HR;have HMS:∀w,Calls Tryz.prog 52 #[.string ⟨#[113]⟩] w fun e w'=>e=.returned (.agg #[.string (loB qN),.string (hiB qN)])∧Ext w w':=fun w=>zUK qN w (by decide)
      have HIN:=fun xa cap=>zSo xa (zT6 (c.nn-1) many).length cap (zT6 (c.nn-1) many) (loB qN) (hiB qN) rfl (by omega) (φ:=fun w=>ValsAt w xa ((zT6 (c.nn-1) many).flatMap rwC)) fun _ h=>h
      generalize loB qN=lo at *;generalize hiB qN=hi9 at *;rw [hml] at HIN;clear HI H HC hf0 hrows hml;generalize zT6 (c.nn-1) many=rs at *;go_wp2_with (refine sq_ ?_;clear hO;(try clear hf);intro w9 hO hf);all_goals try (exfalso;omega;done)
      have hO9:Own (fun _=>False) W _ [Var g [tkB c.nn 0,tkB c.nn 1,tkB c.nn 2,tkB c.nn 3,tkB c.nn 4] 89,EngR e p 70 c D]:=hO.cut sb_;clear hO hf;go_loopw [22,23] (fun v22 v23 wr=>∃(j:Nat),v22=.int .i64 ((many-min j (c.nn-1):Nat):Int)∧v23=.int .i64 (j:Int)∧j≤many∧Own (fun _=>False) W wr [Var g [tkB c.nn 0,tkB c.nn 1,tkB c.nn 2,tkB c.nn 3,tkB c.nn 4] 89,EngR e p 70 c D]) (fun _ v _=>many+1-(intOf v).toNat)
      case atStart=>exact ⟨0,(by rw [show many-min 0 (c.nn-1)=many from by omega]),rfl,by omega,hO9⟩
      case round=>
       clear hO9;obtain ⟨j,rfl,rfl,hj,hO⟩:=hrel;rename World=>w3
       (replace hf:=fa_ hO);by_cases hjl:j<many
       ·have htk:tkB c.nn j=.bool (decide (j+1<c.nn)):=rfl;by_cases hjc:j+1<c.nn
        ·rw [decide_eq_true hjc] at htk;rw [show many-min j (c.nn-1)=many-j from by omega];have hnx:many-min (j+1) (c.nn-1)=many-j-1:=by omega
         rcases (show j=0∨j=1∨j=2∨j=3∨j=4 by omega) with rfl | rfl | rfl | rfl | rfl
         all_goals
          as_aux_lemma=>
           rw [htk] at hO;(replace hf:=fa_ hO);go_wp2_with (refine sq_ ?_;clear hO hf;intro w9 hO hf);all_goals try (exfalso;omega;done)
           exact ⟨⟨_,(by rw [hnx];go_num),by go_num,by omega,(by rw [htk];exact hO.cut sb_)⟩,by first|(simp [intOf];done)|(simp [intOf];omega)⟩
        ·rw [decide_eq_false hjc] at htk;have hnx:many-min (j+1) (c.nn-1)=many-min j (c.nn-1):=by omega
         generalize many-min j (c.nn-1)=left at *;rcases (show j=0∨j=1∨j=2∨j=3∨j=4 by omega) with rfl | rfl | rfl | rfl | rfl
         all_goals
          as_aux_lemma=>
           rw [htk] at hO;(replace hf:=fa_ hO);go_wp2_with (refine sq_ ?_;clear hO hf;intro w9 hO hf);all_goals try (exfalso;omega;done)
           exact ⟨⟨_,(by rw [hnx]),by go_num,by omega,(by rw [htk];exact hO.cut sb_)⟩,by first|(simp [intOf];done)|(simp [intOf];omega)⟩
       ·as_aux_lemma=>
        rw [show many-min j (c.nn-1)=many-(c.nn-1) from by omega];go_wp2_with (first|(go_at_call 37;(with_reducible refine Does.use hO (HR) tk_ (du_ ?_);clear hO;(try clear hf);intro x9 w9 hO hf;(obtain ⟨ra,rc⟩:=x9;dsimp only at hO ⊢;replace hO:=hO.rowImm (a:=ra) (n:=rs.length) (c:=rc) (xs:=rs.flatMap rwC) pk_;(replace hf:=fa_ hO))))|(go_at_call 52;(with_reducible apply Calls.mono (HMS _);refine cu_ ?_;clear hO;(try clear hf);intro w8 hO hf))|(go_at_call 51;(with_reducible apply Does.use hO (HIN _ _);exact tk_;refine du_ ?_;clear hO;(try clear hf);intro x9 w9 hO hf;(obtain ⟨ia,ic⟩:=x9;dsimp only at hO ⊢;(replace hf:=fa_ hO))))|(refine sq_ ?_;clear hO;(try clear hf);intro w9 hO hf));all_goals try (exfalso;omega;done)
        go_ret;exact ⟨rfl,hO.toExt⟩
