/- Texts En2 of this claim, laid together. -/
import Derived.Test.YtagcmjmcjpjihaaGreatDoorHC35
set_option linter.unusedVariables false
set_option linter.unusedSimpArgs false
set_option linter.unnecessarySimpa false
set_option maxHeartbeats 8000000
set_option maxRecDepth 100000
namespace Go.Proofs.YtagcmjmcjpjihaaGreatDoor
open Go.RowKit Go.Lib
def ptrO:Option (Nat×Dv)→Value
 | none=>.pointer none
 | some x=>.pointer (some ⟨x.1,0,none⟩)
def VwO (v:Nat):Option (Nat×Dv)→Rs
 | none=>.pure True
 | some x=>ViewR x.1 v x.2.since x.2.C x.2.R
def EngR (e p m:Nat) (c:Core) (D:Nat→Option (Nat×Dv)):Rs:=.ex fun x:Nat×Nat×Nat×Nat×Nat=>.many
 [Var e [.pointer (some ⟨x.1, 0, none⟩), .pointer (some ⟨x.2.1, 0, none⟩), .pointer (some ⟨x.2.2.1, 0, none⟩), ptrO (D 0), ptrO (D 1), ptrO (D 2), ptrO (D 3)] 131,
  VerR x.2.1 c.nn c.V,zDr x.2.2.1 c.st,VwO x.2.1 (D 0),VwO x.2.1 (D 1),VwO x.2.1 (D 2),VwO x.2.1 (D 3),
  Var x.1 (stC p c.h.ep c.h.si c.h.sz c.h.fi x.2.2.2.1 x.2.2.2.2) 233,
  Var x.2.2.2.1 [.pointer (some ⟨p,0,none⟩),.int .i64 ((50:Nat):Int),.int .i64 (m:Int),.int .i64 (c.h.fi:Int),.int .i64 (c.u:Int)] 295,StM x.2.2.2.2 (c.at c.nn)]
theorem zGx (D:Nat→Option (Nat×Dv)) (s:Nat) (o:Option (Nat×Dv)):setF D s o s=o:=if_pos rfl
theorem SF:(∀(D:Nat→Option (Nat×Dv)) o,setF D 0 o 0=o)∧(∀(D:Nat→Option (Nat×Dv)) o,setF D 0 o 1=D 1)∧(∀(D:Nat→Option (Nat×Dv)) o,setF D 0 o 2=D 2)∧(∀(D:Nat→Option (Nat×Dv)) o,setF D 0 o 3=D 3)∧
 (∀(D:Nat→Option (Nat×Dv)) o,setF D 1 o 0=D 0)∧(∀(D:Nat→Option (Nat×Dv)) o,setF D 1 o 1=o)∧(∀(D:Nat→Option (Nat×Dv)) o,setF D 1 o 2=D 2)∧(∀(D:Nat→Option (Nat×Dv)) o,setF D 1 o 3=D 3)∧
 (∀(D:Nat→Option (Nat×Dv)) o,setF D 2 o 0=D 0)∧(∀(D:Nat→Option (Nat×Dv)) o,setF D 2 o 1=D 1)∧(∀(D:Nat→Option (Nat×Dv)) o,setF D 2 o 2=o)∧(∀(D:Nat→Option (Nat×Dv)) o,setF D 2 o 3=D 3)∧
 (∀(D:Nat→Option (Nat×Dv)) o,setF D 3 o 0=D 0)∧(∀(D:Nat→Option (Nat×Dv)) o,setF D 3 o 1=D 1)∧(∀(D:Nat→Option (Nat×Dv)) o,setF D 3 o 2=D 2)∧(∀(D:Nat→Option (Nat×Dv)) o,setF D 3 o 3=o):=
 ⟨fun _ _=>rfl,fun _ _=>rfl,fun _ _=>rfl,fun _ _=>rfl,fun _ _=>rfl,fun _ _=>rfl,fun _ _=>rfl,fun _ _=>rfl,fun _ _=>rfl,fun _ _=>rfl,fun _ _=>rfl,fun _ _=>rfl,fun _ _=>rfl,fun _ _=>rfl,fun _ _=>rfl,fun _ _=>rfl⟩
theorem VP:(∀v,VwO v none=.pure True)∧(∀v x,VwO v (some x)=ViewR x.1 v x.2.since x.2.C x.2.R)∧(ptrO none=.pointer none)∧(∀x:Nat×Dv,ptrO (some x)=.pointer (some ⟨x.1,0,none⟩)):=⟨fun _=>rfl,fun _ _=>rfl,rfl,fun _=>rfl⟩
theorem zCT {i:Nat} (h:i<4):i=0∨i=1∨i=2∨i=3:=by omega
theorem zDU (e p m:Nat) (c:Core) (D:Nat→Option (Nat×Dv)) (i:Nat) (hi:i<4) (hD:D i=none) :
 Does Tryz.prog 20 #[.pointer (some ⟨e,0,none⟩),.int .i64 (i:Int)] [EngR e p m c D] (fun q:Nat=>(.nilIface,[EngR e p m c (setF D i (some (q,⟨c.nn,[],[]⟩)))])):=by
 rcases zCT hi with rfl | rfl | rfl | rfl
 all_goals
  intro S W w L0 hO;simp only [CA] at hO;obtain ⟨⟨sa,va,ha,qa,ba⟩,hO⟩:=hO.ofEx;replace hO:=hO.unpack;dsimp only at hO;simp only [CA] at hO;(replace hf:=fa_ hO);rw [hD] at hO;simp only [VP] at hO;have HN:=zPA va c.nn c.V;(replace hf:=fa_ hO);go_enter Tryz.func20,Tryz.ntmps20;go_wp2_with (refine sq_ ?_;clear hO hf;intro w9 hO hf);all_goals try (exfalso;omega;done)
  (refine rg_ hO ((0,0)::(0,1)::(0,2)::(0,3)::(0,4)::(1,5)::(0,7)::(0,8)::(5,6)::(0,9)::(5,10)::[]) ?_;clear hO;intro w9 hO;replace hf:=fa_ hO;(refine ss_ hO ?_;clear hO hf;intro w9 hO hf));(refine zAE rfl ?_;intro K8 hK8;(repeat (first | go_skip | go_guarded | go_step));(go_at_call 67;(with_reducible apply Does.use hO (HN);exact tk_;refine du_ ?_;clear hO hf;intro x9 w9 hO hf;(rename Nat=>q9)));(repeat go_step);refine hK8 _ _ trivial ?_;clear hK8 K8);(refine ss_ hO ?_;clear hO hf;intro w9 hO hf);(refine ds_ ?_;clear hO hf;intro w9 hO hf);refine zAA ?_;go_wp2_with (refine sq_ ?_;clear hO hf;intro w9 hO hf);go_ret;refine ⟨q9,rfl,?_⟩
  ((try simp only [CA]);refine Own.toEx (sa,va,ha,qa,ba) (Own.pack ?_);dsimp only;(try simp only [SF,VP]);exact hO.give tk_ kp_)
@[go_sem] theorem zT3 (a b c d:Value) (w:World):(Instr.index 129 (.agg #[a,b,c,d]) (.int .i64 0)).run Tryz.prog w=.ok a w:=by kernel_rfl
@[go_sem] theorem zT5 (a b c d:Value) (w:World):(Instr.index 129 (.agg #[a,b,c,d]) (.int .i64 1)).run Tryz.prog w=.ok b w:=by kernel_rfl
@[go_sem] theorem zT2 (a b c d:Value) (w:World):(Instr.index 129 (.agg #[a,b,c,d]) (.int .i64 2)).run Tryz.prog w=.ok c w:=by kernel_rfl
@[go_sem] theorem zT4 (a b c d:Value) (w:World):(Instr.index 129 (.agg #[a,b,c,d]) (.int .i64 3)).run Tryz.prog w=.ok d w:=by kernel_rfl
def zGe (n:Nat) (o0 o1 o2 o3:Option (Nat×Dv)):Nat→Nat
 | 0=>n
 | 1=>zAP n o0
 | 2=>zAP (zAP n o0) o1
 | 3=>zAP (zAP (zAP n o0) o1) o2
 | _=>zAP (zAP (zAP (zAP n o0) o1) o2) o3
theorem zNM (e p m:Nat) (c:Core) (D:Nat→Option (Nat×Dv)) (i:Nat) (hi:i<4) (x:Nat×Dv) (hD:D i=some x) :
 Does Tryz.prog 20 #[.pointer (some ⟨e,0,none⟩),.int .i64 (i:Int)] [EngR e p m c D] (fun _:Unit=>(errV 7,[EngR e p m c D])):=by
 (rw [show errV 7=.iface 124 (.int .i64 7) from rfl]);rcases zCT hi with rfl | rfl | rfl | rfl
 all_goals
  intro S W w L0 hO;simp only [CA] at hO;obtain ⟨⟨sa,va,ha,qa,ba⟩,hO⟩:=hO.ofEx;replace hO:=hO.unpack;dsimp only at hO;simp only [CA] at hO;(replace hf:=fa_ hO);rw [hD] at hO;simp only [VP] at hO;(replace hf:=fa_ hO);go_enter Tryz.func20,Tryz.ntmps20;go_wp2_with (refine sq_ ?_;clear hO hf;intro w9 hO hf);all_goals try (exfalso;omega;done)
  go_ret;refine ⟨(),rfl,?_⟩
  ((try simp only [CA]);refine Own.toEx (sa,va,ha,qa,ba) (Own.pack ?_);dsimp only;rw [hD];simp only [VP];exact hO.give tk_ kp_)
theorem zCZ (e p m:Nat) (c:Core) (D:Nat→Option (Nat×Dv)) (i:Nat) (hi:i<4) (x:Nat×Dv) (hD:D i=some x) :
 Does Tryz.prog 30 #[.pointer (some ⟨e,0,none⟩),.int .i64 (i:Int)] [EngR e p m c D] (fun _:Unit=>(.tuple #[.pointer (some ⟨x.1,0,none⟩),.nilIface],[EngR e p m c D])):=by
 rcases zCT hi with rfl | rfl | rfl | rfl
 all_goals
  intro S W w L0 hO;simp only [CA] at hO;obtain ⟨⟨sa,va,ha,qa,ba⟩,hO⟩:=hO.ofEx;replace hO:=hO.unpack;dsimp only at hO;simp only [CA] at hO;(replace hf:=fa_ hO);rw [hD] at hO;simp only [VP] at hO;(replace hf:=fa_ hO);go_enter Tryz.func30,Tryz.ntmps30;go_wp2_with (refine sq_ ?_;clear hO hf;intro w9 hO hf);all_goals try (exfalso;omega;done)
  go_ret2;refine ⟨(),rfl,?_⟩
  ((try simp only [CA]);refine Own.toEx (sa,va,ha,qa,ba) (Own.pack ?_);dsimp only;rw [hD];simp only [VP];exact hO.give tk_ kp_)
theorem zCg (e p m:Nat) (c:Core) (D:Nat→Option (Nat×Dv)) (i:Nat) (hi:i<4) (hD:D i=none) :
 Does Tryz.prog 30 #[.pointer (some ⟨e,0,none⟩),.int .i64 (i:Int)] [EngR e p m c D] (fun _:Unit=>(.tuple #[.pointer none,errV 7],[EngR e p m c D])):=by
 (rw [show errV 7=.iface 124 (.int .i64 7) from rfl]);rcases zCT hi with rfl | rfl | rfl | rfl
 all_goals
  intro S W w L0 hO;simp only [CA] at hO;obtain ⟨⟨sa,va,ha,qa,ba⟩,hO⟩:=hO.ofEx;replace hO:=hO.unpack;dsimp only at hO;simp only [CA] at hO;(replace hf:=fa_ hO);rw [hD] at hO;simp only [VP] at hO;(replace hf:=fa_ hO);go_enter Tryz.func30,Tryz.ntmps30;go_wp2_with (refine sq_ ?_;clear hO hf;intro w9 hO hf);all_goals try (exfalso;omega;done)
  go_ret2;refine ⟨(),rfl,?_⟩
  ((try simp only [CA]);refine Own.toEx (sa,va,ha,qa,ba) (Own.pack ?_);dsimp only;rw [hD];simp only [VP];exact hO.give tk_ kp_)
theorem zI2 (e v nn:Nat) (V:List (ByteArray×List Vn)) (a h:Value) (o0 o1 o2 o3:Option (Nat×Dv)) (hb:nn≤1000) :
 Does Tryz.prog 75 #[.pointer (some ⟨e,0,none⟩)] [Var e [a,.pointer (some ⟨v,0,none⟩),h,ptrO o0,ptrO o1,ptrO o2,ptrO o3] 131,VerR v nn V,VwO v o0,VwO v o1,VwO v o2,VwO v o3]
  (fun _:Unit=>(.int .i64 (zAP (zAP (zAP (zAP nn o0) o1) o2) o3:Nat),[Var e [a,.pointer (some ⟨v,0,none⟩),h,ptrO o0,ptrO o1,ptrO o2,ptrO o3] 131,VerR v nn V,VwO v o0,VwO v o1,VwO v o2,VwO v o3])):=by
 have HN:=zIo v nn V;intro S W w L0 hO;simp only [CA] at hO;(replace hf:=fa_ hO);go_enter Tryz.func75,Tryz.ntmps75;go_wp2_with (first|(go_at_call 101;(with_reducible refine Reads.use hO (HN) tk_ (ru_ ?_);clear hO hf;intro w9 hO hf))|(refine sq_ ?_;clear hO hf;intro w9 hO hf));go_loopw [3,5,15] (fun v3 v5 v15 wr=>∃(i k:Nat),v3=.int .i64 (k:Int)∧v15=.int .i64 (i:Int)∧i≤4∧k=zGe nn o0 o1 o2 o3 i∧Own S W wr (Var e [a,.pointer (some ⟨v,0,none⟩),h,ptrO o0,ptrO o1,ptrO o2,ptrO o3] 131::VerR v nn V::VwO v o0::VwO v o1::VwO v o2::VwO v o3::L0)) (fun _ _ v15 _=>4-(intOf v15).toNat)
 case atStart=>exact ⟨0,nn,rfl,rfl,by omega,rfl,hO⟩
 case round=>
  clear hO;obtain ⟨i,k,rfl,rfl,hi,hk,hO⟩:=hrel;rename World=>w1
  rcases (show i=4∨i<4 by omega) with rfl | hlt
  ·have hk:=Lib.hid hk;(replace hf:=fa_ hO);go_wp2;all_goals try (exfalso;omega;done)
   go_ret;refine ⟨(),?_,?_⟩
   ·rw [hk.out];rfl
   ·(try simp only [CA]);exact hO
  ·rcases zCT hlt with rfl | rfl | rfl | rfl
   ·skip;cases o0 with
    | none=>
     simp only [VP] at hO ⊢;(replace hf:=fa_ hO);go_wp2_with (refine sq_ ?_;clear hO hf;intro w9 hO hf);all_goals try (exfalso;omega;done)
     exact ⟨⟨1,_,rfl,rfl,by omega,(by first | exact hk | rfl),hO.cut sb_⟩,by simp [intOf]⟩
    | some x=>
     simp only [VP] at hO ⊢;have HS:=zCs x.1 v x.2.since x.2.C x.2.R;(replace hf:=fa_ hO);go_wp2_with (first|(go_at_call 68;(with_reducible apply Reads.use hO (HS);exact tk_;refine ru_ ?_;clear hO hf;intro w9 hO hf))|(refine sq_ ?_;clear hO hf;intro w9 hO hf));all_goals try (exfalso;omega;done)
     exact ⟨⟨1,_,by (congr 1;simp only [zGe,zAP];omega),rfl,by omega,rfl,hO.cut sb_⟩,by simp [intOf]⟩
   ·skip;cases o1 with
    | none=>
     simp only [VP] at hO ⊢;(replace hf:=fa_ hO);go_wp2_with (refine sq_ ?_;clear hO hf;intro w9 hO hf);all_goals try (exfalso;omega;done)
     exact ⟨⟨2,_,rfl,rfl,by omega,(by first | exact hk | rfl),hO.cut sb_⟩,by simp [intOf]⟩
    | some x=>
     simp only [VP] at hO ⊢;have HS:=zCs x.1 v x.2.since x.2.C x.2.R;(replace hf:=fa_ hO);go_wp2_with (first|(go_at_call 68;(with_reducible apply Reads.use hO (HS);exact tk_;refine ru_ ?_;clear hO hf;intro w9 hO hf))|(refine sq_ ?_;clear hO hf;intro w9 hO hf));all_goals try (exfalso;omega;done)
     exact ⟨⟨2,_,by (congr 1;simp only [zGe,zAP];omega),rfl,by omega,rfl,hO.cut sb_⟩,by simp [intOf]⟩
   ·skip;cases o2 with
    | none=>
     simp only [VP] at hO ⊢;(replace hf:=fa_ hO);go_wp2_with (refine sq_ ?_;clear hO hf;intro w9 hO hf);all_goals try (exfalso;omega;done)
     exact ⟨⟨3,_,rfl,rfl,by omega,(by first | exact hk | rfl),hO.cut sb_⟩,by simp [intOf]⟩
    | some x=>
     simp only [VP] at hO ⊢;have HS:=zCs x.1 v x.2.since x.2.C x.2.R;(replace hf:=fa_ hO);go_wp2_with (first|(go_at_call 68;(with_reducible apply Reads.use hO (HS);exact tk_;refine ru_ ?_;clear hO hf;intro w9 hO hf))|(refine sq_ ?_;clear hO hf;intro w9 hO hf));all_goals try (exfalso;omega;done)
     exact ⟨⟨3,_,by (congr 1;simp only [zGe,zAP];omega),rfl,by omega,rfl,hO.cut sb_⟩,by simp [intOf]⟩
   ·skip;cases o3 with
    | none=>
     simp only [VP] at hO ⊢;(replace hf:=fa_ hO);go_wp2_with (refine sq_ ?_;clear hO hf;intro w9 hO hf);all_goals try (exfalso;omega;done)
     exact ⟨⟨4,_,rfl,rfl,by omega,(by first | exact hk | rfl),hO.cut sb_⟩,by simp [intOf]⟩
    | some x=>
     simp only [VP] at hO ⊢;have HS:=zCs x.1 v x.2.since x.2.C x.2.R;(replace hf:=fa_ hO);go_wp2_with (first|(go_at_call 68;(with_reducible apply Reads.use hO (HS);exact tk_;refine ru_ ?_;clear hO hf;intro w9 hO hf))|(refine sq_ ?_;clear hO hf;intro w9 hO hf));all_goals try (exfalso;omega;done)
     exact ⟨⟨4,_,by (congr 1;simp only [zGe,zAP];omega),rfl,by omega,rfl,hO.cut sb_⟩,by simp [intOf]⟩
theorem zE5 (e p m:Nat) (c:Core) (D:Nat→Option (Nat×Dv)) (i:Nat) (hi:i<4) (x:Nat×Dv) (hD:D i=some x) :
 Does Tryz.prog 24 #[.pointer (some ⟨e,0,none⟩),.int .i64 (i:Int)] [EngR e p m c D] (fun _:Unit=>(.nilIface,[EngR e p m c (setF D i none)])):=by
 have HDE:=zCZ e p m c D i hi x hD;rcases zCT hi with rfl | rfl | rfl | rfl
 all_goals
  intro S W w L0 hO;simp only [CA] at hO;(replace hf:=fa_ hO);go_enter Tryz.func24,Tryz.ntmps24;go_wp2_with (first|(go_at_call 30;(with_reducible refine Does.use hO (HDE) tk_ (du_ ?_);clear hO hf;intro x9 w9 hO hf;(obtain ⟨⟨sa,va,ha,qa,ba⟩,hO⟩:=hO.ofEx;replace hO:=hO.unpack;dsimp only at hO;rw [hD] at hO;simp only [VP] at hO;simp only [CA] at hO;(replace hf:=fa_ hO))))|(refine sq_ ?_;clear hO hf;intro w9 hO hf));all_goals try (exfalso;omega;done)
  go_ret;refine ⟨(),rfl,?_⟩;replace hO:=hO.toPure trivial
  ((try simp only [CA]);refine Own.toEx (sa,va,ha,qa,ba) (Own.pack ?_);dsimp only;(try simp only [SF,VP]);exact hO.give tk_ kp_)
theorem zE6 (e:Nat) (n:Int) (k:Nat) (r:Rs) (hk:k≠0) (HDE:Does Tryz.prog 30 #[.pointer (some ⟨e,0,none⟩),.int .i64 n] [r] (fun _:Unit=>(.tuple #[.pointer none,errV k],[r]))) :
 Does Tryz.prog 24 #[.pointer (some ⟨e,0,none⟩),.int .i64 n] [r] (fun _:Unit=>(errV k,[r])):=by
 rw [show errV k=.iface 124 (.int .i64 k) from if_neg hk] at HDE ⊢;intro S W w L0 hO;simp only [CA] at hO;(replace hf:=fa_ hO);go_enter Tryz.func24,Tryz.ntmps24;go_wp2_with (first|(go_at_call 30;(with_reducible refine Does.use hO (HDE) tk_ (du_ ?_);clear hO hf;intro x9 w9 hO hf))|(refine sq_ ?_;clear hO hf;intro w9 hO hf));all_goals try (exfalso;omega;done)
 go_ret;refine ⟨(),rfl,?_⟩;dsimp only;(try simp only [CA]);exact hO.cut sb_
theorem zEE (e p m:Nat) (c:Core) (D:Nat→Option (Nat×Dv)) :
 Does Tryz.prog 34 #[.pointer (some ⟨e,0,none⟩)] [EngR e p m c D] (fun _:Unit=>(.int .i64 (c.nn:Int),[EngR e p m c D])):=by
 intro S W w L0 hO;simp only [CA] at hO;(obtain ⟨⟨sa,va,ha,qa,ba⟩,hO⟩:=hO.ofEx;replace hO:=hO.unpack;dsimp only at hO;simp only [CA] at hO);have HN:=zIo va c.nn c.V;(replace hf:=fa_ hO);go_enter Tryz.func34,Tryz.ntmps34;go_wp2_with (first|(go_at_call 101;(with_reducible refine Reads.use hO (HN) tk_ (ru_ ?_);clear hO hf;intro w9 hO hf))|(refine sq_ ?_;clear hO hf;intro w9 hO hf));go_ret;refine ⟨(),rfl,?_⟩
 ((try simp only [CA]);refine Own.toEx (sa,va,ha,qa,ba) (Own.pack ?_);dsimp only;(try simp only [SF,VP]);exact hO.give tk_ kp_)
theorem zCM (e p m:Nat) (c:Core) (D:Nat→Option (Nat×Dv)) (hR:(c.at c.nn).length≤1000) :
 Does Tryz.prog 37 #[.pointer (some ⟨e,0,none⟩)] [EngR e p m c D] (fun x:Option Addr×Nat=>(.slice x.1 (c.at c.nn).length x.2,[EngR e p m c D,Row2 177 2 x.1 (c.at c.nn).length x.2 ((c.at c.nn).flatMap rwC)])):=by
 intro S W w L0 hO;simp only [CA] at hO;(obtain ⟨⟨sa,va,ha,qa,ba⟩,hO⟩:=hO.ofEx;replace hO:=hO.unpack;dsimp only at hO;simp only [CA] at hO);have HRW:=(zFe sa ba (c.at c.nn) hR (.pointer (some ⟨p,0,none⟩)) (.int .i64 (c.h.ep:Int)) (.int .i64 (c.h.si:Int)) (.int .i64 (c.h.sz:Int)) (.int .i64 (c.h.fi:Int)) (.pointer (some ⟨qa,0,none⟩)))
 dsimp only [stC] at hO;(replace hf:=fa_ hO);go_enter Tryz.func37,Tryz.ntmps37;go_wp2_with (first|(go_at_call 83;(with_reducible refine Does.use hO (HRW) tk_ (du_ ?_);clear hO hf;intro x9 w9 hO hf;(obtain ⟨xa,xc⟩:=x9;dsimp only at hO ⊢;(replace hf:=fa_ hO))))|(refine sq_ ?_;clear hO hf;intro w9 hO hf));go_ret;refine ⟨(xa,xc),rfl,?_⟩
 ((try simp only [CA]);refine Own.toEx (sa,va,ha,qa,ba) (Own.pack ?_);dsimp only [stC];(try simp only [SF,VP]);exact hO.give tk_ kp_)
