/- Texts Q7, Q8, Q9, Q12, Q13, Recv, Q20, En1, EnC, Q14, Q19, Q21, TurnL, ToldL, PlayL, Q24, Told of this claim, laid together. -/
import Derived.Test.YtagcmjmcjpjihaaGreatDoorHC37
set_option linter.unusedVariables false
set_option linter.unusedSimpArgs false
set_option maxHeartbeats 8000000
set_option maxRecDepth 100000
namespace Go.Proofs.YtagcmjmcjpjihaaGreatDoor
open Go.RowKit
noncomputable def zAq (B:ByteArray→ByteArray×Bool) (C:List Ch) (R:List Sp) (name:ByteArray) (tries:Int) (dead:ByteArray):Nat×List Ch×List Sp:=
 if (zAO (B (queB name)) C R name).2=0 then (6,C,zAI C R name) else if (zAO (B (queB name)) C R name).2≠5 then ((zAO (B (queB name)) C R name).2,C,zAI C R name)
 else if dead=name then (3,C,zAI C R name)
 else if dead=⟨#[]⟩ then (zD6 C name ⟨0,tries,dead⟩,zEB C name ⟨0,tries,dead⟩,zAI C R name)
 else if (zAO (B (queB dead)) C (zAI C R name) dead).2≠0 then ((zAO (B (queB dead)) C (zAI C R name) dead).2,C,zAI C (zAI C R name) dead)
 else (zD6 C name ⟨0,tries,dead⟩,zEB C name ⟨0,tries,dead⟩,zAI C (zAI C R name) dead)
theorem zSz (n:Nat):(n=0∧errV n=.nilIface)∨∃M:Int,M=n∧n≠0∧errV n=.iface 124 (.int .i64 M):=by
 cases n with
 | zero=>exact .inl ⟨rfl,rfl⟩
 | succ n=>exact .inr ⟨((n+1:Nat):Int),rfl,by omega,rfl⟩
@[go_sem] theorem zTs (a b:Int) (w:World):(binOp .neq 42 (.iface 124 (.int .i64 a)) (.iface 124 (.int .i64 b))).run Tryz.prog w=.ok (.bool (!(a==b))) w:=by kernel_rfl
theorem zH8 {C:List Ch} {R:List Sp} {k:ByteArray} (h:R.length≤40):(getB C R k).length≤40:=by
 unfold getB;split
 ·exact h
 ·split
  ·exact h
  ·exact zKZ _ h
theorem zGC {C:List Ch} {R:List Sp} {k:ByteArray} (h:R.length≤40):(zAI C R k).length≤40:=by
 unfold zAI;split
 ·exact h
 ·exact zH8 h
theorem zMI (q p since nn:Nat) (V:List (ByteArray×List Vn)) (B:ByteArray→ByteArray×Bool) (C:List Ch) (R:List Sp) (name:ByteArray) (tries:Int) (dead:ByteArray) (hy:∀k,zAU V k since=B k) (hys:∀k,(B k).1.size≤100) (hCs:∀c∈C,c.val.size≤100)
 (hk:name.size≤200) (hdk:dead.size≤200) (hC:C.length≤700) (hU:Ups C) (hR:R.length≤40) (hV:∀e∈V,e.2.length≤1000000) {φ:World→Prop} (hφ:∀w,φ w→LibOk w) :
 Does Tryz.prog 47 #[.pointer (some ⟨q,0,none⟩),.string name,.int .i64 tries,.string dead] [ViewR q p since C R,VerR p nn V,.imm φ]
  (fun _:Unit=>(errV (zAq B C R name tries dead).1,[ViewR q p since (zAq B C R name tries dead).2.1 (zAq B C R name tries dead).2.2,VerR p nn V,.imm φ])):=by
 have HF:=zCJ q p since nn V C R name _ (hy _) (hys _) hCs hk (by omega) hU hR hV hφ;have hR2:=zGC (C:=C) (k:=name) hR;have HF2:=zCJ q p since nn V C (zAI C R name) dead _ (hy _) (hys _) hCs hdk (by omega) hU hR2 hV hφ;have hok:=zCw (y:=B (queB dead)) (C:=C) (R:=zAI C R name) (name:=dead);have hPT:=fun R' (h:dead.size≤50)=>zKj q p since C R' name ⟨0,tries,dead⟩ h hk (by omega) hU hφ
 unfold zAq;generalize zAO (B (queB name)) C R name=f at *;generalize zAO (B (queB dead)) C (zAI C R name) dead=g at *;generalize zAI C (zAI C R name) dead=R2 at *;generalize zAI C R name=R1 at *;obtain ⟨⟨un,ut,ud⟩,f2⟩:=f;obtain ⟨⟨gn,gt,gd⟩,g2⟩:=g;unfold Qu.v at HF HF2 hPT;dsimp only at HF HF2 hPT hok ⊢;rcases zSz f2 with ⟨h0,e⟩ | ⟨M,hM,h0,e⟩
 ·rw [e] at HF;rw [if_pos h0,show errV 6=.iface 124 (.int .i64 6) from rfl];clear HF2 hPT hok h0 e;intro S W w L0 hO;simp only [CA] at hO;(replace hf:=fa_ hO);go_enter Tryz.func47,Tryz.ntmps47;go_wp2_with (first|(go_at_call 90;(with_reducible apply Does.use hO (HF);exact tk_;refine du_ ?_;clear hO hf;intro x9 w9 hO hf))|(refine sq_ ?_;clear hO hf;intro w9 hO hf));go_ret;refine ⟨(),rfl,?_⟩;(try simp only [CA]);exact hO.cut sb_
 ·rw [e] at HF;rw [if_neg h0];by_cases h5:f2≠5
  ·rw [if_pos h5];dsimp only;rw [e];have hM5:¬M=5:=by omega
   have hM6:(M==5)=false:=by simpa using hM5
   clear HF2 hPT hok h0 e h5 hM;intro S W w L0 hO;simp only [CA] at hO;(replace hf:=fa_ hO);go_enter Tryz.func47,Tryz.ntmps47;go_wp2_with (first|(go_at_call 90;(with_reducible apply Does.use hO (HF);exact tk_;refine du_ ?_;clear hO hf;intro x9 w9 hO hf))|(refine sq_ ?_;clear hO hf;intro w9 hO hf));all_goals try (exfalso;omega;done)
   go_ret;refine ⟨(),rfl,?_⟩;(try simp only [CA]);exact hO.cut sb_
  ·rw [if_neg h5];obtain rfl:M=5:=by omega
   clear e h0 h5 hM;by_cases hdn:dead=name
   ·subst hdn;rw [if_pos rfl,show errV 3=.iface 124 (.int .i64 3) from rfl];clear HF2 hPT hok;intro S W w L0 hO;simp only [CA] at hO;(replace hf:=fa_ hO);go_enter Tryz.func47,Tryz.ntmps47;go_wp2_with (first|(go_at_call 90;(with_reducible apply Does.use hO (HF);exact tk_;refine du_ ?_;clear hO hf;intro x9 w9 hO hf))|(refine sq_ ?_;clear hO hf;intro w9 hO hf));all_goals try (exfalso;omega;done)
    go_ret;refine ⟨(),rfl,?_⟩;(try simp only [CA]);exact hO.cut sb_
   ·rw [if_neg hdn];have h1:¬dead.toList=name.toList:=fun h=>hdn (zBH h)
    have h2:(dead.toList==name.toList)=false:=by simpa using h1
    by_cases hd0:dead=⟨#[]⟩
    ·rw [if_pos hd0];have HPT:=hPT R1 (by rw [hd0];exact Nat.zero_le _);have h3:dead.toList=[]:=by rw [hd0,ByteArray.toList_eq]
     clear HF2 hPT hok hdn hd0;dsimp only;generalize zEB C name ⟨0,tries,dead⟩=C' at *;generalize errV (zD6 C name ⟨0,tries,dead⟩)=ev at *;intro S W w L0 hO;simp only [CA] at hO;(replace hf:=fa_ hO);go_enter Tryz.func47,Tryz.ntmps47;go_wp2_with (first|(go_at_call 90;(with_reducible apply Does.use hO (HF);exact tk_;refine du_ ?_;clear hO hf;intro x9 w9 hO hf))|(go_at_call 117;(with_reducible apply Does.use hO (HPT);exact tk_;refine du_ ?_;clear hO hf;intro x9 w9 hO hf))|(refine sq_ ?_;clear hO hf;intro w9 hO hf));all_goals try (exfalso;simp_all;done)
     go_ret;refine ⟨(),rfl,?_⟩;(try simp only [CA]);exact hO.cut sb_
    ·rw [if_neg hd0];have h3:¬dead.toList=[]:=fun h=>hd0 (zBH (h.trans (by rw [ByteArray.toList_eq])))
     clear hdn hd0;rcases zAk g2 with ⟨hg,e⟩ | ⟨M,hg,e⟩
     ·rw [e] at HF2;rw [if_neg (by omega)];have hdz:=(hok hg).2.2.2.2.2.1;have HPT:=hPT R2 (by omega);clear hPT hok e hg;dsimp only;generalize zEB C name ⟨0,tries,dead⟩=C' at *;generalize errV (zD6 C name ⟨0,tries,dead⟩)=ev at *;intro S W w L0 hO;simp only [CA] at hO;(replace hf:=fa_ hO);go_enter Tryz.func47,Tryz.ntmps47;go_wp2_with (first|(go_at_call 90;(with_reducible apply Does.use hO (HF);exact tk_;refine du_ ?_;clear hO hf;intro x9 w9 hO hf))|(go_at_call 90;(with_reducible apply Does.use hO (HF2);exact tk_;refine du_ ?_;clear hO hf;intro x9 w9 hO hf))|(go_at_call 117;(with_reducible apply Does.use hO (HPT);exact tk_;refine du_ ?_;clear hO hf;intro x9 w9 hO hf))|(refine sq_ ?_;clear hO hf;intro w9 hO hf));all_goals try (exfalso;simp_all;done)
      go_ret;refine ⟨(),rfl,?_⟩;(try simp only [CA]);exact hO.cut sb_
     ·rw [e] at HF2;rw [if_pos hg];dsimp only;rw [e];clear hPT hok e hg;intro S W w L0 hO;simp only [CA] at hO;(replace hf:=fa_ hO);go_enter Tryz.func47,Tryz.ntmps47;go_wp2_with (first|(go_at_call 90;(with_reducible apply Does.use hO (HF);exact tk_;refine du_ ?_;clear hO hf;intro x9 w9 hO hf))|(go_at_call 90;(with_reducible apply Does.use hO (HF2);exact tk_;refine du_ ?_;clear hO hf;intro x9 w9 hO hf))|(refine sq_ ?_;clear hO hf;intro w9 hO hf));all_goals try (exfalso;simp_all;done)
      go_ret;refine ⟨(),rfl,?_⟩;(try simp only [CA]);exact hO.cut sb_
noncomputable def setN (C:List Ch) (name:ByteArray) (m:Ms):Nat:=if m.txt.2≠0 then m.txt.2 else putN C ⟨msgB name m.num.toNat,m.txt.1,false⟩
noncomputable def setL (C:List Ch) (name:ByteArray) (m:Ms):List Ch:=if m.txt.2≠0 then C else putL C ⟨msgB name m.num.toNat,m.txt.1,false⟩
noncomputable def zBf (B:ByteArray→ByteArray×Bool) (C:List Ch) (R:List Sp) (name:ByteArray) (n tries:Int):Ms×Nat:=
 if (zAO (B (queB name)) C R name).2≠0 then (Ms.z,(zAO (B (queB name)) C R name).2) else if n<0∨999999<n∨tries<1 then (Ms.z,1)
 else if (getG (B (msgB name n.toNat)) C (zAI C R name) (msgB name n.toNat)).2.2≠0 then (Ms.z,(getG (B (msgB name n.toNat)) C (zAI C R name) (msgB name n.toNat)).2.2)
 else if (getG (B (msgB name n.toNat)) C (zAI C R name) (msgB name n.toNat)).2.1=false then (Ms.z,11)
 else if (msOf n (getG (B (msgB name n.toNat)) C (zAI C R name) (msgB name n.toNat)).1).2≠0 then (Ms.z,(msOf n (getG (B (msgB name n.toNat)) C (zAI C R name) (msgB name n.toNat)).1).2)
 else if (msOf n (getG (B (msgB name n.toNat)) C (zAI C R name) (msgB name n.toNat)).1).1.tries≠tries then (Ms.z,11)
 else ((msOf n (getG (B (msgB name n.toNat)) C (zAI C R name) (msgB name n.toNat)).1).1,0)
noncomputable def zBK (B:ByteArray→ByteArray×Bool) (C:List Ch) (R:List Sp) (name:ByteArray) (n tries:Int):List Sp:=
 if (zAO (B (queB name)) C R name).2≠0∨n<0∨999999<n∨tries<1 then zAI C R name else getB C (zAI C R name) (msgB name n.toNat)
theorem zKn (q p since:Nat) (C:List Ch) (R:List Sp) (name:ByteArray) (m:Ms) (hm:m.num≤999999) (hk:name.size≤200) (hC:C.length≤800) (hU:Ups C) {φ:World→Prop} (hφ:∀w,φ w→LibOk w) :
 Does Tryz.prog 126 #[.pointer (some ⟨q,0,none⟩),.string name,m.v] [ViewR q p since C R,.imm φ] (fun _:Unit=>(errV (setN C name m),[ViewR q p since (setL C name m) R,.imm φ])):=by
 have HMT:=fun w h=>zMB m w h
 have HMG:=fun w h=>zBD name m.num w (by omega) h (by omega)
 have hts:=m.txt_size;have hms:=zAx name m.num.toNat;unfold setN setL;generalize m.txt=t at *;obtain ⟨t1,t2⟩:=t;dsimp only at HMT hts ⊢;have HP:=zEH q p since C R (msgB name m.num.toNat) t1 (by omega) (by omega) hC hU hφ;obtain ⟨mn,mt,mu,mb⟩:=m;unfold Ms.v at HMT ⊢;dsimp only at *;generalize msgB name mn.toNat=k at *;rcases zAk t2 with ⟨h0,e⟩ | ⟨M,h0,e⟩
 ·rw [e] at HMT;rw [if_neg (by omega),if_neg (by omega)];clear e h0;generalize putL C ⟨k,t1,false⟩=C' at *;generalize errV (putN C ⟨k,t1,false⟩)=ev at *;intro S W w L0 hO;simp only [CA] at hO;(replace hf:=fa_ hO);go_enter Tryz.func126,Tryz.ntmps126;go_wp2_with (first|(go_at_call 204;(with_reducible apply Calls.mono (HMT _ (hφ _ (Own.immOf (φ:=φ) hO pk_)));refine cu_ ?_;clear hO hf;intro w8 hO hf))|(go_at_call 124;(with_reducible apply Calls.mono (HMG _ (hφ _ (Own.immOf (φ:=φ) hO pk_)));refine cu_ ?_;clear hO hf;intro w8 hO hf))|(go_at_call 44;(with_reducible apply Does.use hO (HP);exact tk_;refine du_ ?_;clear hO hf;intro x9 w9 hO hf))|(refine sq_ ?_;clear hO hf;intro w9 hO hf));go_ret;refine ⟨(),rfl,?_⟩;(try simp only [CA]);exact hO.cut sb_
 ·rw [e] at HMT;rw [if_pos h0,if_pos h0,e];clear HP e h0;intro S W w L0 hO;simp only [CA] at hO;(replace hf:=fa_ hO);go_enter Tryz.func126,Tryz.ntmps126;go_wp2_with (first|(go_at_call 204;(with_reducible apply Calls.mono (HMT _ (hφ _ (Own.immOf (φ:=φ) hO pk_)));refine cu_ ?_;clear hO hf;intro w8 hO hf))|(refine sq_ ?_;clear hO hf;intro w9 hO hf));go_ret;refine ⟨(),rfl,?_⟩;(try simp only [CA]);exact hO.cut sb_
theorem zJC (q p since nn:Nat) (V:List (ByteArray×List Vn)) (B:ByteArray→ByteArray×Bool) (C:List Ch) (R:List Sp) (name:ByteArray) (n tries:Int) (hy:∀k,zAU V k since=B k) (hys:∀k,(B k).1.size≤100) (hCs:∀c∈C,c.val.size≤100)
 (hk:name.size≤200) (hC:C.length≤700) (hU:Ups C) (hR:R.length≤40) (hV:∀e∈V,e.2.length≤1000000) {φ:World→Prop} (hφ:∀w,φ w→LibOk w) :
 Does Tryz.prog 127 #[.pointer (some ⟨q,0,none⟩),.string name,.int .i64 n,.int .i64 tries] [ViewR q p since C R,VerR p nn V,.imm φ]
  (fun _:Unit=>(.tuple #[(zBf B C R name n tries).1.v,errV (zBf B C R name n tries).2],[ViewR q p since C (zBK B C R name n tries),VerR p nn V,.imm φ])):=by
 have HF:=zCJ q p since nn V C R name _ (hy _) (hys _) hCs hk (by omega) hU hR hV hφ;have hR2:=zGC (C:=C) (k:=name) hR;have hms:=zAx name n.toNat;have HGT:=zE3 q p since nn V C (zAI C R name) (msgB name n.toNat) (by omega) (by omega) hU hR2 hV hφ;rw [zIu,hy] at HGT;have hgs:=zGA (R:=zAI C R name) (k:=msgB name n.toNat) (hys (msgB name n.toNat)) hCs;unfold zBf zBK;generalize zAO (B (queB name)) C R name=f at *;generalize getG (B (msgB name n.toNat)) C (zAI C R name) (msgB name n.toNat)=g at *;generalize getB C (zAI C R name) (msgB name n.toNat)=R2 at *;generalize zAI C R name=R1 at *;obtain ⟨⟨un,ut,ud⟩,f2⟩:=f;obtain ⟨g1,g2,g3⟩:=g;unfold Qu.v at HF;dsimp only at HF HGT hgs ⊢;rcases zAk f2 with ⟨h0,e⟩ | ⟨M,h0,e⟩
 ·rw [e] at HF;rw [if_neg (by omega)];by_cases hb:n<0∨999999<n∨tries<1
  ·rw [if_pos hb,if_pos (.inr hb)];unfold Ms.v Ms.z;rw [show errV 1=.iface 124 (.int .i64 1) from rfl];clear HGT e h0;intro S W w L0 hO;simp only [CA] at hO;(replace hf:=fa_ hO);go_enter Tryz.func127,Tryz.ntmps127;go_wp2_with (first|(go_at_call 90;(with_reducible apply Does.use hO (HF);exact tk_;refine du_ ?_;clear hO hf;intro x9 w9 hO hf))|(refine sq_ ?_;clear hO hf;intro w9 hO hf));all_goals try (exfalso;omega;done)
   all_goals ((refine zAD rfl fun K hK=>?_;simp [results,Tryz.results127,go_sem,hf];refine hK _ ⟨(),?_,?_⟩);(focus rfl);(focus ((try simp only [CA]);exact hO.cut sb_)))
  ·rw [if_neg hb,if_neg (show ¬(f2≠0∨n<0∨999999<n∨tries<1) by omega)];have HMG:=fun w h=>zBD name n w (by omega) h (by omega)
   generalize msgB name n.toNat=k at *;clear hms;rcases zAk g3 with ⟨h3,e3⟩ | ⟨M,h3,e3⟩
   ·rw [e3] at HGT;rw [if_neg (by omega)];clear e3 h3 e h0;cases g2 with
    | false=>
     rw [if_pos rfl];unfold Ms.v Ms.z;rw [show errV 11=.iface 124 (.int .i64 11) from rfl];intro S W w L0 hO;simp only [CA] at hO;(replace hf:=fa_ hO);go_enter Tryz.func127,Tryz.ntmps127;go_wp2_with (first|(go_at_call 90;(with_reducible apply Does.use hO (HF);exact tk_;refine du_ ?_;clear hO hf;intro x9 w9 hO hf))|(go_at_call 124;(with_reducible apply Calls.mono (HMG _ (hφ _ (Own.immOf (φ:=φ) hO pk_)));refine cu_ ?_;clear hO hf;intro w8 hO hf))|(go_at_call 43;(with_reducible apply Does.use hO (HGT);exact tk_;refine du_ ?_;clear hO hf;intro x9 w9 hO hf))|(refine sq_ ?_;clear hO hf;intro w9 hO hf));all_goals try (exfalso;omega;done)
     ((refine zAD rfl fun K hK=>?_;simp [results,Tryz.results127,go_sem,hf];refine hK _ ⟨(),?_,?_⟩);(focus rfl);(focus ((try simp only [CA]);exact hO.cut sb_)))
    | true=>
     rw [if_neg Bool.noConfusion];have HMP:=fun w h=>zH3 n g1 hgs w h
     generalize msOf n g1=r at *;obtain ⟨⟨rn,rt,ru,rb⟩,r2⟩:=r;unfold Ms.v at HMP;dsimp only at HMP ⊢;rcases zAk r2 with ⟨h4,e4⟩ | ⟨M,h4,e4⟩
     ·rw [e4] at HMP;rw [if_neg (by omega)];clear e4 h4;by_cases ht:rt≠tries
      ·rw [if_pos ht];unfold Ms.v Ms.z;rw [show errV 11=.iface 124 (.int .i64 11) from rfl];intro S W w L0 hO;simp only [CA] at hO;(replace hf:=fa_ hO);go_enter Tryz.func127,Tryz.ntmps127;go_wp2_with (first|(go_at_call 90;(with_reducible apply Does.use hO (HF);exact tk_;refine du_ ?_;clear hO hf;intro x9 w9 hO hf))|(go_at_call 124;(with_reducible apply Calls.mono (HMG _ (hφ _ (Own.immOf (φ:=φ) hO pk_)));refine cu_ ?_;clear hO hf;intro w8 hO hf))|(go_at_call 43;(with_reducible apply Does.use hO (HGT);exact tk_;refine du_ ?_;clear hO hf;intro x9 w9 hO hf))|(go_at_call 181;(with_reducible apply Calls.mono (HMP _ (hφ _ (Own.immOf (φ:=φ) hO pk_)));refine cu_ ?_;clear hO hf;intro w8 hO hf))|(refine sq_ ?_;clear hO hf;intro w9 hO hf));all_goals try (exfalso;simp_all;done)
       all_goals try (exfalso;omega;done)
       ((refine zAD rfl fun K hK=>?_;simp [results,Tryz.results127,go_sem,hf];refine hK _ ⟨(),?_,?_⟩);(focus rfl);(focus ((try simp only [CA]);exact hO.cut sb_)))
      ·rw [if_neg ht];obtain rfl:rt=tries:=by omega
       unfold Ms.v;rw [show errV 0=.nilIface from rfl];clear ht;intro S W w L0 hO;simp only [CA] at hO;(replace hf:=fa_ hO);go_enter Tryz.func127,Tryz.ntmps127;go_wp2_with (first|(go_at_call 90;(with_reducible apply Does.use hO (HF);exact tk_;refine du_ ?_;clear hO hf;intro x9 w9 hO hf))|(go_at_call 124;(with_reducible apply Calls.mono (HMG _ (hφ _ (Own.immOf (φ:=φ) hO pk_)));refine cu_ ?_;clear hO hf;intro w8 hO hf))|(go_at_call 43;(with_reducible apply Does.use hO (HGT);exact tk_;refine du_ ?_;clear hO hf;intro x9 w9 hO hf))|(go_at_call 181;(with_reducible apply Calls.mono (HMP _ (hφ _ (Own.immOf (φ:=φ) hO pk_)));refine cu_ ?_;clear hO hf;intro w8 hO hf))|(refine sq_ ?_;clear hO hf;intro w9 hO hf));all_goals try (exfalso;omega;done)
       all_goals try (exfalso;simp_all;done)
       ((refine zAD rfl fun K hK=>?_;simp [results,Tryz.results127,go_sem,hf];refine hK _ ⟨(),?_,?_⟩);(focus rfl);(focus ((try simp only [CA]);exact hO.cut sb_)))
     ·rw [e4] at HMP;rw [if_pos h4];unfold Ms.v Ms.z;dsimp only;rw [e4];clear e4;intro S W w L0 hO;simp only [CA] at hO;(replace hf:=fa_ hO);go_enter Tryz.func127,Tryz.ntmps127;go_wp2_with (first|(go_at_call 90;(with_reducible apply Does.use hO (HF);exact tk_;refine du_ ?_;clear hO hf;intro x9 w9 hO hf))|(go_at_call 124;(with_reducible apply Calls.mono (HMG _ (hφ _ (Own.immOf (φ:=φ) hO pk_)));refine cu_ ?_;clear hO hf;intro w8 hO hf))|(go_at_call 43;(with_reducible apply Does.use hO (HGT);exact tk_;refine du_ ?_;clear hO hf;intro x9 w9 hO hf))|(go_at_call 181;(with_reducible apply Calls.mono (HMP _ (hφ _ (Own.immOf (φ:=φ) hO pk_)));refine cu_ ?_;clear hO hf;intro w8 hO hf))|(refine sq_ ?_;clear hO hf;intro w9 hO hf));all_goals try (exfalso;omega;done)
      ((refine zAD rfl fun K hK=>?_;simp [results,Tryz.results127,go_sem,hf];refine hK _ ⟨(),?_,?_⟩);(focus rfl);(focus ((try simp only [CA]);exact hO.cut sb_)))
   ·rw [e3] at HGT;rw [if_pos h3];unfold Ms.v Ms.z;dsimp only;rw [e3];clear e3 e;intro S W w L0 hO;simp only [CA] at hO;(replace hf:=fa_ hO);go_enter Tryz.func127,Tryz.ntmps127;go_wp2_with (first|(go_at_call 90;(with_reducible apply Does.use hO (HF);exact tk_;refine du_ ?_;clear hO hf;intro x9 w9 hO hf))|(go_at_call 124;(with_reducible apply Calls.mono (HMG _ (hφ _ (Own.immOf (φ:=φ) hO pk_)));refine cu_ ?_;clear hO hf;intro w8 hO hf))|(go_at_call 43;(with_reducible apply Does.use hO (HGT);exact tk_;refine du_ ?_;clear hO hf;intro x9 w9 hO hf))|(refine sq_ ?_;clear hO hf;intro w9 hO hf));all_goals try (exfalso;omega;done)
    ((refine zAD rfl fun K hK=>?_;simp [results,Tryz.results127,go_sem,hf];refine hK _ ⟨(),?_,?_⟩);(focus rfl);(focus ((try simp only [CA]);exact hO.cut sb_)))
 ·rw [e] at HF;rw [if_pos h0,if_pos (.inl h0)];unfold Ms.v Ms.z;dsimp only;rw [e];clear HGT e;intro S W w L0 hO;simp only [CA] at hO;(replace hf:=fa_ hO);go_enter Tryz.func127,Tryz.ntmps127;go_wp2_with (first|(go_at_call 90;(with_reducible apply Does.use hO (HF);exact tk_;refine du_ ?_;clear hO hf;intro x9 w9 hO hf))|(refine sq_ ?_;clear hO hf;intro w9 hO hf))
  ((refine zAD rfl fun K hK=>?_;simp [results,Tryz.results127,go_sem,hf];refine hK _ ⟨(),?_,?_⟩);(focus rfl);(focus ((try simp only [CA]);exact hO.cut sb_)))
noncomputable def ackA (B:ByteArray→ByteArray×Bool) (C:List Ch) (R:List Sp) (name:ByteArray) (n tries:Int):Nat×List Ch:=
 if (zBf B C R name n tries).2≠0 then ((zBf B C R name n tries).2,C) else (putN C ⟨msgB name n.toNat,⟨#[]⟩,true⟩,putL C ⟨msgB name n.toNat,⟨#[]⟩,true⟩)
def Ms.till (m:Ms) (t:Int):Ms:=⟨m.num,m.tries,t,m.body⟩
noncomputable def zCL (B:ByteArray→ByteArray×Bool) (C:List Ch) (R:List Sp) (name:ByteArray) (n tries til:Int):Nat×List Ch:=
 if (zBf B C R name n tries).2≠0 then ((zBf B C R name n tries).2,C) else if zBM [til]≠0 then (1,C)
 else (setN C name ((zBf B C R name n tries).1.till til),setL C name ((zBf B C R name n tries).1.till til))
theorem zLi {B:ByteArray→ByteArray×Bool} {C:List Ch} {R:List Sp} {name:ByteArray} {n tries:Int} (h:(zBf B C R name n tries).2=0):0≤n∧n≤999999∧(zBf B C R name n tries).1.num=n∧¬(zBf B C R name n tries).1.bad:=by
 unfold zBf at *;split at h
 ·rename_i h1;exact absurd h h1
 ·rename_i h1;rw [if_neg h1];split at h
  ·cases h
  ·rename_i h2;rw [if_neg h2];split at h
   ·rename_i h3;exact absurd h h3
   ·rename_i h3;rw [if_neg h3];split at h
    ·cases h
    ·rename_i h4;rw [if_neg h4];split at h
     ·rename_i h5;exact absurd h h5
     ·rename_i h5;rw [if_neg h5];split at h
      ·cases h
      ·rename_i h6;rw [if_neg h6];refine ⟨by omega,by omega,?_⟩;rcases zBn n (getG (B (msgB name n.toNat)) C (zAI C R name) (msgB name n.toNat)).1 with ⟨m,hm,hn,hb,_⟩ | ⟨hm,_⟩
       ·rw [hm];exact ⟨hn,hb⟩
       ·rw [hm] at h5;exact absurd rfl (fun e:(4:Nat)=4=>h5 (by decide))
theorem zQJ (q p since nn:Nat) (V:List (ByteArray×List Vn)) (B:ByteArray→ByteArray×Bool) (C:List Ch) (R:List Sp) (name:ByteArray) (n tries:Int) (hy:∀k,zAU V k since=B k) (hys:∀k,(B k).1.size≤100) (hCs:∀c∈C,c.val.size≤100)
 (hk:name.size≤200) (hC:C.length≤700) (hU:Ups C) (hR:R.length≤40) (hV:∀e∈V,e.2.length≤1000000) {φ:World→Prop} (hφ:∀w,φ w→LibOk w) :
 Does Tryz.prog 50 #[.pointer (some ⟨q,0,none⟩),.string name,.int .i64 n,.int .i64 tries] [ViewR q p since C R,VerR p nn V,.imm φ]
  (fun _:Unit=>(errV (ackA B C R name n tries).1,[ViewR q p since (ackA B C R name n tries).2 (zBK B C R name n tries),VerR p nn V,.imm φ])):=by
 have HM:=zJC q p since nn V B C R name n tries hy hys hCs hk hC hU hR hV hφ;have hok:=zLi (B:=B) (C:=C) (R:=R) (name:=name) (n:=n) (tries:=tries);have hms:=zAx name n.toNat;have HP:=zCW q p since C (zBK B C R name n tries) (msgB name n.toNat) (by omega) (by omega) hU hφ;unfold ackA;generalize zBf B C R name n tries=m at *;generalize zBK B C R name n tries=R2 at *;obtain ⟨⟨mn,mt,mu,mb⟩,m2⟩:=m;unfold Ms.v at HM;dsimp only at HM hok ⊢;clear hms;rcases zAk m2 with ⟨h0,e⟩ | ⟨M,h0,e⟩
 ·rw [e] at HM;rw [if_neg (by omega)];obtain ⟨hn0,hn1,_⟩:=hok h0;have HMG:=fun w h=>zBD name n w (by omega) h (by omega)
  clear hok e h0;dsimp only;generalize msgB name n.toNat=k at *;generalize putL C ⟨k,⟨#[]⟩,true⟩=C' at *;generalize errV (putN C ⟨k,⟨#[]⟩,true⟩)=ev at *;intro S W w L0 hO;simp only [CA] at hO;(replace hf:=fa_ hO);go_enter Tryz.func50,Tryz.ntmps50;go_wp2_with (first|(go_at_call 127;(with_reducible apply Does.use hO (HM);exact tk_;refine du_ ?_;clear hO hf;intro x9 w9 hO hf))|(go_at_call 124;(with_reducible apply Calls.mono (HMG _ (hφ _ (Own.immOf (φ:=φ) hO pk_)));refine cu_ ?_;clear hO hf;intro w8 hO hf))|(go_at_call 93;(with_reducible apply Does.use hO (HP);exact tk_;refine du_ ?_;clear hO hf;intro x9 w9 hO hf))|(refine sq_ ?_;clear hO hf;intro w9 hO hf));go_ret;refine ⟨(),rfl,?_⟩;(try simp only [CA]);exact hO.cut sb_
 ·rw [e] at HM;rw [if_pos h0];dsimp only;rw [e];clear HP hok e;intro S W w L0 hO;simp only [CA] at hO;(replace hf:=fa_ hO);go_enter Tryz.func50,Tryz.ntmps50;go_wp2_with (first|(go_at_call 127;(with_reducible apply Does.use hO (HM);exact tk_;refine du_ ?_;clear hO hf;intro x9 w9 hO hf))|(refine sq_ ?_;clear hO hf;intro w9 hO hf));go_ret;refine ⟨(),rfl,?_⟩;(try simp only [CA]);exact hO.cut sb_
theorem zO7 (q p since nn:Nat) (V:List (ByteArray×List Vn)) (B:ByteArray→ByteArray×Bool) (C:List Ch) (R:List Sp) (name:ByteArray) (n tries til:Int) (hy:∀k,zAU V k since=B k) (hys:∀k,(B k).1.size≤100) (hCs:∀c∈C,c.val.size≤100)
 (hk:name.size≤200) (hC:C.length≤700) (hU:Ups C) (hR:R.length≤40) (hV:∀e∈V,e.2.length≤1000000) {φ:World→Prop} (hφ:∀w,φ w→LibOk w) :
 Does Tryz.prog 88 #[.pointer (some ⟨q,0,none⟩),.string name,.int .i64 n,.int .i64 tries,.int .i64 til] [ViewR q p since C R,VerR p nn V,.imm φ]
  (fun _:Unit=>(errV (zCL B C R name n tries til).1,[ViewR q p since (zCL B C R name n tries til).2 (zBK B C R name n tries),VerR p nn V,.imm φ])):=by
 have HM:=zJC q p since nn V B C R name n tries hy hys hCs hk hC hU hR hV hφ;have HTM:=fun w b (h:(Var b [.int .i64 til] 3).facts w)=>zIA (some ⟨b,0,none⟩) 1 1 [til] w rfl (by omega) (zMs h)
 have hok:=zLi (B:=B) (C:=C) (R:=R) (name:=name) (n:=n) (tries:=tries);have hST:=fun (h:(zBf B C R name n tries).1.num≤999999)=>zKn q p since C (zBK B C R name n tries) name ((zBf B C R name n tries).1.till til) h hk (by omega) hU hφ
 unfold zCL;generalize zBf B C R name n tries=m at *;generalize zBK B C R name n tries=R2 at *;obtain ⟨⟨mn,mt,mu,mb⟩,m2⟩:=m;unfold Ms.v Ms.till at hST;unfold Ms.v at HM;unfold Ms.till;dsimp only at HM hok hST ⊢;rcases zAk m2 with ⟨h0,e⟩ | ⟨M,h0,e⟩
 ·rw [e] at HM;rw [if_neg (by omega)];obtain ⟨hn0,hn1,hn2,_⟩:=hok h0;have HST:=hST (by omega);clear hok hST e h0 hn2 hn0 hn1;rcases zAk (zBM [til]) with ⟨h0,e⟩ | ⟨M,h0,e⟩
  ·rw [e] at HTM;rw [if_neg (by omega)];dsimp only;clear e h0;generalize setL C name ⟨mn,mt,til,mb⟩=C' at *;generalize errV (setN C name ⟨mn,mt,til,mb⟩)=ev at *;intro S W w L0 hO;simp only [CA] at hO;(replace hf:=fa_ hO);go_enter Tryz.func88,Tryz.ntmps88;go_wp2_with (first|(go_at_call 127;(with_reducible apply Does.use hO (HM);exact tk_;refine du_ ?_;clear hO hf;intro x9 w9 hO hf))|(go_at_call 118;(with_reducible apply Calls.mono (HTM _ _ (hO.factOf (r:=Var _ [.int .i64 til] 3) pk_));refine cu_ ?_;clear hO hf;intro w8 hO hf))|(go_at_call 126;(with_reducible apply Does.use hO (HST);exact tk_;refine du_ ?_;clear hO hf;intro x9 w9 hO hf))|(refine sq_ ?_;clear hO hf;intro w9 hO hf));go_ret;refine ⟨(),rfl,?_⟩;(try simp only [CA]);exact hO.cut sb_
  ·rw [if_pos h0];have h1:zBM [til]=1:=by have:=zIM [til];omega
   rw [h1] at HTM;rw [show errV 1=.iface 124 (.int .i64 1) from rfl] at HTM ⊢;clear HST h0 e h1;intro S W w L0 hO;simp only [CA] at hO;(replace hf:=fa_ hO);go_enter Tryz.func88,Tryz.ntmps88;go_wp2_with (first|(go_at_call 127;(with_reducible apply Does.use hO (HM);exact tk_;refine du_ ?_;clear hO hf;intro x9 w9 hO hf))|(go_at_call 118;(with_reducible apply Calls.mono (HTM _ _ (hO.factOf (r:=Var _ [.int .i64 til] 3) pk_));refine cu_ ?_;clear hO hf;intro w8 hO hf))|(refine sq_ ?_;clear hO hf;intro w9 hO hf));go_ret;refine ⟨(),rfl,?_⟩;(try simp only [CA]);exact hO.cut sb_
 ·rw [e] at HM;rw [if_pos h0];dsimp only;rw [e];clear hST hok e HTM;intro S W w L0 hO;simp only [CA] at hO;(replace hf:=fa_ hO);go_enter Tryz.func88,Tryz.ntmps88;go_wp2_with (first|(go_at_call 127;(with_reducible apply Does.use hO (HM);exact tk_;refine du_ ?_;clear hO hf;intro x9 w9 hO hf))|(refine sq_ ?_;clear hO hf;intro w9 hO hf));go_ret;refine ⟨(),rfl,?_⟩;(try simp only [CA]);exact hO.cut sb_
def numP (n:Nat):Nat→Nat
 | 0=>0
 | 1=>n / 100000
 | 2=>n / 10000
 | 3=>n / 1000
 | 4=>n / 100
 | 5=>n / 10
 | _=>n
def numD (n:Nat):Nat→Nat
 | 0=>n / 100000 % 10
 | 1=>n / 10000 % 10
 | 2=>n / 1000 % 10
 | 3=>n / 100 % 10
 | 4=>n / 10 % 10
 | _=>n % 10
theorem zKe {n j:Nat} (hn:n<1000000) (hj:j<6):numP n (j+1)=10*numP n j+numD n j∧numD n j<10∧numP n j<1000000:=by
 match j,hj with
 | 0,_=>simp only [numP,numD];omega
 | 1,_=>simp only [numP,numD];omega
 | 2,_=>simp only [numP,numD];omega
 | 3,_=>simp only [numP,numD];omega
 | 4,_=>simp only [numP,numD];omega
 | 5,_=>simp only [numP,numD];omega
theorem zOF (a:ByteArray) {n j:Nat} (hn:n<1000000) (hj:j<6) (h:a.size+3+j<(msgB a n).size):(msgB a n)[a.size+3+j]=d8 (numD n j):=by
 have e:(msgB a n).data.toList=(109::47::(a.data.toList++[47]))++esix n:=by
  unfold msgB;rw [zAB,zAB,zAB,zAB,show (six n).data.toList=esix (n % 1000000) from rfl,Nat.mod_eq_of_lt hn];simp only [List.append_assoc];show [109]++([47]++(a.data.toList++([47]++esix n)))=_;simp only [List.cons_append,List.nil_append,List.append_assoc]
 have hl:(109::47::(a.data.toList++[47]):List UInt8).length=a.size+3:=by
  simp only [List.length_cons,List.length_append,List.length_nil,Array.length_toList];rfl
 have e2:(msgB a n).data.toList[a.size+3+j]?=(esix n)[j]?:=by
  rw [e,List.getElem?_append_right (by omega),hl,Nat.add_sub_cancel_left]
 have e3:(msgB a n).data.toList[a.size+3+j]?=some (msgB a n)[a.size+3+j]:=by
  rw [Array.getElem?_toList];exact Array.getElem?_eq_getElem h
 rw [e3] at e2;have e4:(esix n)[j]?=some (d8 (numD n j)):=by
  match j,hj with
  | 0,_=>rfl
  | 1,_=>rfl
  | 2,_=>rfl
  | 3,_=>rfl
  | 4,_=>rfl
  | 5,_=>rfl
 rw [e4] at e2;injection e2
theorem Ext.iter {a w:World} (h:Ext a w) (s:ByteArray) (pos:Nat):Ext a (w.iter s pos):=h.alloc _
def numO (k:ByteArray):Nat:=valL (k.data.toList.drop (k.size-6))
theorem zRt {n:Nat} (hn:n<1000000):valL (esix n)=n:=by
 unfold valL esix;simp only [List.foldl_cons,List.foldl_nil];rw [zA2 _ (by omega),zA2 _ (by omega),zA2 _ (by omega),zA2 _ (by omega),zA2 _ (by omega),zA2 _ (by omega)];omega
theorem zMZ (a:ByteArray) {n:Nat} (hn:n<1000000):numO (msgB a n)=n:=by
 have e:(msgB a n).data.toList=(109::47::(a.data.toList++[47]))++esix n:=by
  unfold msgB;rw [zAB,zAB,zAB,zAB,show (six n).data.toList=esix (n % 1000000) from rfl,Nat.mod_eq_of_lt hn];simp only [List.append_assoc];show [109]++([47]++(a.data.toList++([47]++esix n)))=_;simp only [List.cons_append,List.nil_append,List.append_assoc]
 have hl:(109::47::(a.data.toList++[47]):List UInt8).length=a.size+3:=by
  simp only [List.length_cons,List.length_append,List.length_nil,Array.length_toList];rfl
 unfold numO;rw [e,zAx,show a.size+9-6=a.size+3 from rfl,←hl,List.drop_left];exact zRt hn
theorem zLs {c:Ch} (h:chN c=0):KeyOk c.key∧c.val.size≤40:=by
 unfold chN at h;split at h
 ·rename_i h1;refine ⟨h1,?_⟩;split at h
  ·cases h
  ·split at h
   ·cases h
   ·omega
 ·cases h
structure QInv (C:List Ch) (R:List Sp):Prop where
 ups:Ups C
 c12:C.length≤12
 r40:R.length≤40
 good:∀c∈C,chN c=0
structure QRows (rows:List Rw):Prop where
 ups:RUps rows
 ok:∀r∈rows,KeyOk r.key∧r.val.size≤40
 len:rows.length≤1000
theorem KeyOk.size_le {k:ByteArray} (h:KeyOk k):k.size≤60:=by
 rcases h with ⟨a,ha,rfl | rfl⟩ | ⟨q,n,hq,hn,rfl⟩
 ·have:=ha.2.1;show (tabB a).size≤60;have e:(tabB a).size=2+a.size:=by
   unfold tabB;rw [ByteArray.size_append,ByteArray.size_append];rfl
  omega
 ·have:=ha.2.1;show (queB a).size≤60;rw [zGr];omega
 ·have:=hq.2.1;show (msgB q n).size≤60;rw [zAx];omega
theorem QInv.val {C:List Ch} {R:List Sp} (h:QInv C R):∀c∈C,c.val.size≤100:=fun c hc=>by have:=(zLs (h.good c hc)).2;omega
theorem QInv.put {C:List Ch} {R:List Sp} (h:QInv C R) (c:Ch):QInv (putL C c) R:=by
 have hk:=zQt c h.ups h.c12;refine ⟨hk.1,hk.2,h.r40,fun x hx=>?_⟩;unfold putL at hx;split at hx
 ·rename_i h1;rcases zTM hx with rfl | hx
  ·unfold putN at h1;split at h1
   ·rename_i h2;exact absurd h1 h2
   ·rename_i h2;exact Classical.not_not.1 h2
  ·exact h.good x hx
 ·exact h.good x hx
theorem QInv.reads {C:List Ch} {R R':List Sp} (h:QInv C R) (hR:R'.length≤40):QInv C R':=⟨h.ups,h.c12,hR,h.good⟩
theorem QInv.putq {C:List Ch} {R:List Sp} (h:QInv C R) (name:ByteArray) (q:Qu):QInv (zEB C name q) R:=by
 unfold zEB;split
 ·exact h
 ·exact h.put _
theorem QInv.set {C:List Ch} {R:List Sp} (h:QInv C R) (name:ByteArray) (m:Ms):QInv (setL C name m) R:=by
 unfold setL;split
 ·exact h
 ·exact h.put _
theorem QInv.send {C:List Ch} {R:List Sp} (h:QInv C R) (name:ByteArray) (u:Qu) (body:ByteArray) (til:Int):QInv (zA8 C name u body til).2.2 R:=by
 unfold zA8;split
 ·exact h
 ·split
  ·exact h
  ·split
   ·exact h
   ·exact (h.put _).putq _ _
theorem QInv.find {C:List Ch} {R:List Sp} (h:QInv C R) (name:ByteArray):QInv C (zAI C R name):=h.reads (zGC h.r40)
theorem QInv.bury {C:List Ch} {R:List Sp} (h:QInv C R) (B:ByteArray→ByteArray×Bool) (name:ByteArray) (u:Qu) (m:Ms):QInv (zAh B C R name u m).2.1 (zAh B C R name u m).2.2:=by
 unfold zAh;split
 ·exact h
 ·split
  ·exact h.put _
  ·split
   ·exact (h.put _).find _
   ·exact ((h.put _).find _).send _ _ _ _
theorem QInv.scan {C:List Ch} {R:List Sp} (h:QInv C R) (L:List Rw) (lo hi:ByteArray) (most:Int):QInv C (scnB L R lo hi most):=by
 refine h.reads ?_;unfold scnB;split
 ·exact h.r40
 ·exact zKZ _ h.r40
theorem zL0 {P:Rw→Prop}:∀{C:List Ch} {l:List Rw},(∀r∈l,P r)→(∀c∈C,P ⟨c.key,c.val⟩)→∀r∈C.foldl appR l,P r
 | [],_,h,_=>h
 | c::C,l,h,hC=>zL0 (C:=C) (l:=appR l c) (fun r hr=>by
  rcases zAi.1 hr with ⟨h1,_⟩ | ⟨_,h1⟩
  ·exact h r h1
  ·rw [h1];exact hC c (List.mem_cons_self ..)) fun d hd=>hC d (List.mem_cons_of_mem _ hd)
theorem zGv {rows:List Rw} {C:List Ch} {R:List Sp} (hr:QRows rows) (h:QInv C R):∀r∈C.foldl appR rows,KeyOk r.key∧r.val.size≤40:=
 zL0 hr.ok fun c hc=>zLs (h.good c hc)
theorem zFA {rows:List Rw} {C:List Ch} {R:List Sp} (hr:QRows rows) (h:QInv C R) (lo hi:ByteArray):∀r∈inR lo hi (C.foldl appR rows),r.key.size≤300:=fun r hm=>by
 have:=(zGv hr h r (List.mem_filter.1 hm).1).1.size_le;omega
theorem zLr {a k:ByteArray}:hasB (loB a) (hiB a) k=true↔∃r,k.data.toList=109::47::(a.data.toList++47::r):=zRl a k
theorem zLv {name k:ByteArray} (hn:zAN name) (hk:KeyOk k) (h:hasB (loB name) (hiB name) k=true):∃n,n<1000000∧k=msgB name n:=by
 have h:=zLr.1 h;rcases hk with ⟨a,ha,rfl | rfl⟩ | ⟨q,n,hq,hn2,rfl⟩
 ·exact absurd h (zSy name a)
 ·exact absurd h (zSp name a)
 ·have:=(zOB hn hq n).1 h;subst this;exact ⟨n,hn2,rfl⟩
theorem zSv {lo lo0 hi k:ByteArray} (h:hasB lo hi k=true) (h0:slt lo lo0=false):hasB lo0 hi k=true:=by
 unfold hasB at *;simp only [Bool.and_eq_true,Bool.not_eq_true'] at *;refine ⟨?_,h.2⟩;cases h1:slt k lo0 with
 | false=>rfl
 | true=>have:=zDB h1 h0;rw [h.1] at this;cases this
theorem zTq {name:ByteArray} (hn:zAN name) (n:Nat):slt (msgB name n) (loB name)=false:=by
 have h:=zLr.2 ((zOB hn hn n).2 rfl);unfold hasB at h;simp only [Bool.and_eq_true,Bool.not_eq_true'] at h;exact h.1
theorem zJP {name:ByteArray} (hn:zAN name) (n:Nat):slt (loB name) (msgB name n++nul)=true:=zHF (zTq hn n) (zEj _)
def LoOk (name:ByteArray) (k:Nat) (lo:ByteArray):Prop:=(k=0∧lo=loB name)∨∃n,n<1000000∧k=n+1∧lo=msgB name n++nul
theorem LoOk.le {name lo:ByteArray} {k:Nat} (hn:zAN name) (h:LoOk name k lo):slt lo (loB name)=false:=by
 rcases h with ⟨_,rfl⟩ | ⟨n,_,_,rfl⟩
 ·exact zBw _
 ·exact zBR (zJP hn n)
theorem LoOk.num {name lo hi:ByteArray} {k m:Nat} (h:LoOk name k lo) (hm:m<1000000) (hh:hasB lo hi (msgB name m)=true):k≤m:=by
 rcases h with ⟨rfl,_⟩ | ⟨n,hn,rfl,rfl⟩
 ·exact Nat.zero_le _
 ·unfold hasB at hh;simp only [Bool.and_eq_true,Bool.not_eq_true'] at hh;have h1:=hh.1;rw [zDD,zJg name n m hn hm] at h1;simp only [Bool.not_eq_false',decide_eq_true_eq] at h1;omega
theorem zI4 {rows:List Rw} {C:List Ch} {R:List Sp} {name lo:ByteArray} {k:Nat} {r:Rw} {t:List Rw} (hr:QRows rows) (h:QInv C R) (hn:zAN name) (hl:LoOk name k lo) (he:inR lo (hiB name) (C.foldl appR rows)=r::t) :
 ∃n,k≤n∧n<1000000∧r=⟨msgB name n,r.val⟩∧r.val.size≤40:=by
 have hm:r∈inR lo (hiB name) (C.foldl appR rows):=by rw [he];exact List.mem_cons_self ..
 obtain ⟨h1,h2⟩:=List.mem_filter.1 hm;obtain ⟨h3,h4⟩:=zGv hr h r h1;obtain ⟨n,hn1,hn2⟩:=zLv hn h3 (zSv h2 (hl.le hn));refine ⟨n,?_,hn1,?_,h4⟩
 ·rw [hn2] at h2;exact hl.num hn1 h2
 ·obtain ⟨a,b⟩:=r;dsimp only at hn2 ⊢;rw [hn2]
def Ms.more (m:Ms) (t:Int):Ms:=⟨m.num,m.tries+1,t,m.body⟩
inductive Recv (rows:List Rw) (name:ByteArray) (u:Qu) (now long:Int):List Ch→List Sp→ByteArray→Ms×Nat×List Ch×List Sp→Prop
 | bad {C R lo res L} (hL:inR lo (hiB name) (C.foldl appR rows)=L) (h1:scnN L R lo (hiB name) 1≠0) (e:res=(Ms.z,scnN L R lo (hiB name) 1,C,scnB L R lo (hiB name) 1)):Recv rows name u now long C R lo res
 | empty {C R lo res} (hL:inR lo (hiB name) (C.foldl appR rows)=[]) (h1:scnN [] R lo (hiB name) 1=0) (e:res=(Ms.z,12,C,scnB [] R lo (hiB name) 1)):Recv rows name u now long C R lo res
 | text {C R lo res n v t} (hL:inR lo (hiB name) (C.foldl appR rows)=⟨msgB name n,v⟩::t) (h1:scnN (⟨msgB name n,v⟩::t) R lo (hiB name) 1=0) (hn:n<1000000) (hv:v.size≤40)
  (h2:(msOf n v).2≠0) (e:res=(Ms.z,(msOf n v).2,C,scnB (⟨msgB name n,v⟩::t) R lo (hiB name) 1)):Recv rows name u now long C R lo res
 | skip {C R lo res n v t} (hL:inR lo (hiB name) (C.foldl appR rows)=⟨msgB name n,v⟩::t) (h1:scnN (⟨msgB name n,v⟩::t) R lo (hiB name) 1=0) (hn:n<1000000) (hv:v.size≤40)
  (h2:(msOf n v).2=0) (h3:now<(msOf n v).1.until_) (h:Recv rows name u now long C (scnB (⟨msgB name n,v⟩::t) R lo (hiB name) 1) (msgB name n++nul) res):Recv rows name u now long C R lo res
 | lost {C R lo res n v t} (hL:inR lo (hiB name) (C.foldl appR rows)=⟨msgB name n,v⟩::t) (h1:scnN (⟨msgB name n,v⟩::t) R lo (hiB name) 1=0) (hn:n<1000000) (hv:v.size≤40)
  (h2:(msOf n v).2=0) (h3:¬now<(msOf n v).1.until_) (h4:u.tries≤(msOf n v).1.tries) (h5:(zAh (valR rows) C (scnB (⟨msgB name n,v⟩::t) R lo (hiB name) 1) name u (msOf n v).1).1≠0)
  (e:res=(Ms.z,zAh (valR rows) C (scnB (⟨msgB name n,v⟩::t) R lo (hiB name) 1) name u (msOf n v).1)):Recv rows name u now long C R lo res
 | bury {C R lo res n v t} (hL:inR lo (hiB name) (C.foldl appR rows)=⟨msgB name n,v⟩::t) (h1:scnN (⟨msgB name n,v⟩::t) R lo (hiB name) 1=0) (hn:n<1000000) (hv:v.size≤40)
  (h2:(msOf n v).2=0) (h3:¬now<(msOf n v).1.until_) (h4:u.tries≤(msOf n v).1.tries) (h5:(zAh (valR rows) C (scnB (⟨msgB name n,v⟩::t) R lo (hiB name) 1) name u (msOf n v).1).1=0)
  (h:Recv rows name u now long (zAh (valR rows) C (scnB (⟨msgB name n,v⟩::t) R lo (hiB name) 1) name u (msOf n v).1).2.1 (zAh (valR rows) C (scnB (⟨msgB name n,v⟩::t) R lo (hiB name) 1) name u (msOf n v).1).2.2 (msgB name n++nul) res):Recv rows name u now long C R lo res
 | take {C R lo res n v t} (hL:inR lo (hiB name) (C.foldl appR rows)=⟨msgB name n,v⟩::t) (h1:scnN (⟨msgB name n,v⟩::t) R lo (hiB name) 1=0) (hn:n<1000000) (hv:v.size≤40)
  (h2:(msOf n v).2=0) (h3:¬now<(msOf n v).1.until_) (h4:¬u.tries≤(msOf n v).1.tries)
  (e:res=((msOf n v).1.more (now+long),setN C name ((msOf n v).1.more (now+long)),setL C name ((msOf n v).1.more (now+long)),scnB (⟨msgB name n,v⟩::t) R lo (hiB name) 1)):Recv rows name u now long C R lo res
theorem zS4 {rows:List Rw} {name:ByteArray} (u:Qu) (now long:Int) (hr:QRows rows) (hn:zAN name):∀(f:Nat) {k:Nat} {C:List Ch} {R:List Sp} {lo:ByteArray},1000000≤f+k→QInv C R→LoOk name k lo→
 ∃res,Recv rows name u now long C R lo res∧QInv res.2.2.1 res.2.2.2:=by
 intro f
 induction f with
 | zero=>
  intro k C R lo hf h hl;cases hL:inR lo (hiB name) (C.foldl appR rows) with
  | nil=>
   by_cases h1:scnN [] R lo (hiB name) 1=0
   ·exact ⟨_,.empty hL h1 rfl,h.scan [] lo (hiB name) 1⟩
   ·exact ⟨_,.bad hL h1 rfl,h.scan [] lo (hiB name) 1⟩
  | cons r t=>
   obtain ⟨n,h1,h2,_⟩:=zI4 hr h hn hl hL;omega
 | succ f ih=>
  intro k C R lo hf h hl;by_cases h1:scnN (inR lo (hiB name) (C.foldl appR rows)) R lo (hiB name) 1=0
  ·cases hL:inR lo (hiB name) (C.foldl appR rows) with
   | nil=>rw [hL] at h1;exact ⟨_,.empty hL h1 rfl,h.scan [] lo (hiB name) 1⟩
   | cons r t=>
    obtain ⟨n,hn1,hn2,hn3,hn4⟩:=zI4 hr h hn hl hL;rw [hL] at h1;generalize r.val=v at *;subst hn3;have hl2:LoOk name (n+1) (msgB name n++nul):=.inr ⟨n,hn2,rfl,rfl⟩;by_cases h2:(msOf n v).2=0
    ·by_cases h3:now<(msOf n v).1.until_
     ·obtain ⟨res,h5,h6⟩:=ih (k:=n+1) (by omega) (h.scan (⟨msgB name n,v⟩::t) lo (hiB name) 1) hl2;exact ⟨res,.skip hL h1 hn2 hn4 h2 h3 h5,h6⟩
     ·by_cases h4:u.tries≤(msOf n v).1.tries
      ·by_cases h5:(zAh (valR rows) C (scnB (⟨msgB name n,v⟩::t) R lo (hiB name) 1) name u (msOf n v).1).1=0
       ·obtain ⟨res,h6,h7⟩:=ih (k:=n+1) (by omega) ((h.scan (⟨msgB name n,v⟩::t) lo (hiB name) 1).bury (valR rows) name u (msOf n v).1) hl2;exact ⟨res,.bury hL h1 hn2 hn4 h2 h3 h4 h5 h6,h7⟩
       ·exact ⟨_,.lost hL h1 hn2 hn4 h2 h3 h4 h5 rfl,(h.scan (⟨msgB name n,v⟩::t) lo (hiB name) 1).bury (valR rows) name u (msOf n v).1⟩
      ·exact ⟨_,.take hL h1 hn2 hn4 h2 h3 h4 rfl,(h.scan (⟨msgB name n,v⟩::t) lo (hiB name) 1).set name ((msOf n v).1.more (now+long))⟩
    ·exact ⟨_,.text hL h1 hn2 hn4 h2 rfl,h.scan (⟨msgB name n,v⟩::t) lo (hiB name) 1⟩
  ·exact ⟨_,.bad rfl h1 rfl,h.scan (inR lo (hiB name) (C.foldl appR rows)) lo (hiB name) 1⟩
def msC (m:Ms):List Value:=[.int .i64 m.num,.int .i64 m.tries,.int .i64 m.until_,.string m.body]
theorem zRq {w:World} {l:List Ms} {b off i:Nat} (h:ValsAt w (some ⟨b,off,none⟩) (l.flatMap msC)) (hi:i<l.length) :
 w.cell? ⟨b,off+i*4,none⟩=some (.int .i64 l[i].num)∧w.cell? ⟨b,off+i*4+1,none⟩=some (.int .i64 l[i].tries)∧w.cell? ⟨b,off+i*4+2,none⟩=some (.int .i64 l[i].until_)∧w.cell? ⟨b,off+i*4+3,none⟩=some (.string l[i].body):=by
 have g0:=zAj msC 4 (fun _=>rfl) l i hi 0 (by omega);have g1:=zAj msC 4 (fun _=>rfl) l i hi 1 (by omega);have g2:=zAj msC 4 (fun _=>rfl) l i hi 2 (by omega);have g3:=zAj msC 4 (fun _=>rfl) l i hi 3 (by omega);exact ⟨ValsAt.get h g0,by rw [Nat.add_assoc];exact ValsAt.get h g1,by rw [Nat.add_assoc];exact ValsAt.get h g2,by rw [Nat.add_assoc];exact ValsAt.get h g3⟩
theorem zS9 {w:World} {l:List Ms} {a:Option Addr} {i:Nat} (h:ValsAt w a (l.flatMap msC)) (hi:i<l.length):∃b off,a=some ⟨b,off,none⟩:=
 ValsAt.some h (zAj msC 4 (fun _=>rfl) l i hi 0 (by omega))
theorem zTj (O:List Ms) (x:Ms):(O++[x]).flatMap msC=O.flatMap msC++[.int .i64 x.num,.int .i64 x.tries,.int .i64 x.until_,.string x.body]:=by rw [List.flatMap_append];rfl
theorem Tryz.infoMs:(Tryz.prog.info? 92).map (fun i=>(i.zero,i.size,i.bytes))=some (some (.agg #[.int .i64 0,.int .i64 0,.int .i64 0,.string ⟨#[]⟩]),4,40):=by kernel_rfl
noncomputable def msR (r:Rw):Ms×Nat:=msOf (numO r.key) r.val
open Classical in
noncomputable def zFr (L:List Rw):Nat:=if ∀r∈L,(msR r).2=0 then 0 else 4
noncomputable def zA3 (rows:List Rw) (C:List Ch) (R:List Sp) (name:ByteArray):List Ms×Nat×List Sp:=
 if (zAO (valR rows (queB name)) C R name).2≠0 then ([],(zAO (valR rows (queB name)) C R name).2,zAI C R name)
 else if scnN (inR (loB name) (hiB name) (C.foldl appR rows)) (zAI C R name) (loB name) (hiB name) 53≠0 then ([],scnN (inR (loB name) (hiB name) (C.foldl appR rows)) (zAI C R name) (loB name) (hiB name) 53,scnB (inR (loB name) (hiB name) (C.foldl appR rows)) (zAI C R name) (loB name) (hiB name) 53)
 else if zFr ((inR (loB name) (hiB name) (C.foldl appR rows)).take 53)≠0 then ([],4,scnB (inR (loB name) (hiB name) (C.foldl appR rows)) (zAI C R name) (loB name) (hiB name) 53)
 else (((inR (loB name) (hiB name) (C.foldl appR rows)).take 53).map (fun r=>(msR r).1),0,scnB (inR (loB name) (hiB name) (C.foldl appR rows)) (zAI C R name) (loB name) (hiB name) 53)
theorem zTT (r:Rw):(msR r).2=0∨(msR r).2=4∧(msR r).1=Ms.z:=by
 rcases zBn (numO r.key) r.val with ⟨m,hm,_⟩ | ⟨hm,_⟩
 ·left;unfold msR;rw [hm]
 ·right;unfold msR;rw [hm];exact ⟨rfl,rfl⟩
theorem zPp {L:List Rw} {r:Rw} (h:r∈L) (h2:(msR r).2=4):zFr L=4:=by
 unfold zFr;rw [if_neg (fun h3=>by rw [h3 r h] at h2;cases h2)]
theorem zSR {L:List Rw} (h:∀r∈L,(msR r).2=0):zFr L=0:=by unfold zFr;rw [if_pos h]
def MsgRows (name:ByteArray) (L:List Rw):Prop:=∀r∈L,∃n,n<1000000∧r.key=msgB name n∧r.val.size≤40
theorem zOR {rows:List Rw} {C:List Ch} {R:List Sp} {name:ByteArray} (hr:QRows rows) (h:QInv C R) (hn:zAN name):MsgRows name (inR (loB name) (hiB name) (C.foldl appR rows)):=fun r hm=>by
 obtain ⟨h1,h2⟩:=List.mem_filter.1 hm;obtain ⟨h3,h4⟩:=zGv hr h r h1;obtain ⟨n,hn1,hn2⟩:=zLv hn h3 h2;exact ⟨n,hn1,hn2,h4⟩
theorem MsgRows.take {name:ByteArray} {L:List Rw} (h:MsgRows name L) (k:Nat):MsgRows name (L.take k):=fun r hr=>h r (List.mem_of_mem_take hr)
structure Seen (V:List (ByteArray×List Vn)) (since:Nat) (rows:List Rw):Prop where
 rd:∀k,zAU V k since=valR rows k
 sc:∀f,zBm V f since=rows.filter fun r=>f r.key
 nd:(V.map (·.1)).Nodup
 vl:V.length≤50000
 v1:∀e∈V,e.2.length≤100000
 qr:QRows rows
theorem Seen.scan {V:List (ByteArray×List Vn)} {since:Nat} {rows:List Rw} (h:Seen V since rows) (C:List Ch) (lo hi:ByteArray):(inC lo hi C).foldl appR (zBm V (hasB lo hi) since)=inR lo hi (C.foldl appR rows):=by
 rw [zMn lo hi C h.qr.ups,h.sc];rfl
theorem zRh {rows:List Rw} (h:∀r∈rows,r.val.size≤40) (k:ByteArray):(valR rows k).1.size≤100:=by
 unfold valR;cases hf:rows.find? (fun r=>decide (r.key=k)) with
 | none=>exact Nat.zero_le _
 | some r=>have:=h r (List.mem_of_find?_eq_some hf);dsimp only;omega
theorem Seen.val {V:List (ByteArray×List Vn)} {since:Nat} {rows:List Rw} (h:Seen V since rows):∀k,(valR rows k).1.size≤100:=zRh fun r hr=>(h.qr.ok r hr).2
theorem Seen.v6 {V:List (ByteArray×List Vn)} {since:Nat} {rows:List Rw} (h:Seen V since rows):∀e∈V,e.2.length≤1000000:=fun e he=>Nat.le_trans (h.v1 e he) (by omega)
structure CoreOk (m B:Nat) (c:Core):Prop where
 up:StUp (m+50) c.d c.h c.R0 c.W0 c.u
 ps:Past c.nn c.frm c.V c.past
 rows:c.past[c.nn]?=some (zAF c.R0 c.W0)
 all:∀l∈c.past,SRows l
 kl:c.keys.length=c.nn+1
 k12:∀ks∈c.keys,ks.length≤12
 kn:c.kf≤c.nn
 ep:c.h.ep≤B+1
 nB:c.nn≤B
 vl:c.V.length≤40+12*B
 vc:cntV c.V≤40+12*B
 b:B≤1000
structure DeedOk (c:Core) (x:Dv):Prop where
 f:c.frm≤x.since
 k:c.kf≤x.since
 le:x.since≤c.nn
 q:QInv x.C x.R
theorem SRows.q {l:List Rw} (h:SRows l):QRows l:=⟨h.ups,fun r hr=>⟨h.key r hr,h.val r hr⟩,by have:=h.len;omega⟩
theorem zJb {V:List (ByteArray×List Vn)} {n:Nat} (h:cntV V≤n):∀e∈V,e.2.length≤n:=fun e he=>Nat.le_trans (zOY he) h
theorem CoreOk.sees {m B:Nat} {c:Core} (h:CoreOk m B c) {n:Nat} (h1:c.frm≤n) (h2:n≤c.nn):Seen c.V n (c.at n):=by
 have hl:=h.ps.len;have hn:n<c.past.length:=by omega
 have e:c.at n=c.past[n]:=by unfold Core.at;rw [List.getElem?_eq_getElem hn];rfl
 rw [e];have hb:=h.b;exact ⟨h.ps.reads n hn h1,h.ps.scan (m:=n) (by omega) (j:=n) (by omega) hn,h.ps.inv.keys,by have:=h.vl;omega,zJb (by have:=h.vc;omega),(h.all _ (List.getElem_mem hn)).q⟩
theorem CoreOk.now {m B:Nat} {c:Core} (h:CoreOk m B c):c.at c.nn=zAF c.R0 c.W0:=by unfold Core.at;rw [h.rows];rfl
theorem CoreOk.more {m B B':Nat} {c:Core} (h:CoreOk m B c) (hb:B≤B') (hB:B'≤1000):CoreOk m B' c:=
 ⟨h.up,h.ps,h.rows,h.all,h.kl,h.k12,h.kn,by have:=h.ep;omega,by have:=h.nB;omega,by have:=h.vl;omega,by have:=h.vc;omega,hB⟩
def Core.new (d:Dk) (h:Hd) (R0:List Rw) (W0:List (List Ch)) (u:Nat):Core:=⟨d,h,R0,W0,u,0,0,newV (zAF R0 W0),[zAF R0 W0],0,[[]]⟩
theorem CoreOk.new {m B:Nat} {d:Dk} {h:Hd} {R0:List Rw} {W0:List (List Ch)} {u:Nat} (U:StUp (m+50) d h R0 W0 u) (he:h.ep≤B+1) (hB:B≤1000):CoreOk m B (Core.new d h R0 W0 u):=by
 have hs:=U.st.now;refine ⟨U,Past.new hs.ups,rfl,fun l hl=>by rw [List.mem_singleton.1 hl];exact hs,rfl,fun ks hk=>by rw [List.mem_singleton.1 hk];exact Nat.zero_le _,Nat.le_refl _,he,Nat.zero_le _,?_,?_,hB⟩
 ·show (newV _).length≤_;rw [zNt];have:=hs.len;omega
 ·show cntV (newV _)≤_;have:=zS7 (zAF R0 W0);have:=hs.len;omega
noncomputable def Core.com (c:Core) (C:List Ch) (d:Dk) (h:Hd) (R0:List Rw) (W0:List (List Ch)) (u s:Nat):Core:=
 ⟨d,h,R0,W0,u,c.nn+1,c.frm,zBF c.nn C c.V,c.past++[C.foldl appR (c.at c.nn)],max c.kf s,c.keys++[zAm C]⟩
theorem zF5:∀{l:List Ch} {p:Option ByteArray},Ups l→(∀c∈l,chN c=0)→(∀k c,p=some k→c∈l→slt k c.key=true)→zAy p l=0
 | [],_,_,_,_=>rfl
 | c::l,p,hu,hg,hp=>by
  obtain ⟨h1,h2⟩:=List.pairwise_cons.1 hu;unfold zAy;rw [if_neg (by rw [hg c (List.mem_cons_self ..)];simp),if_neg]
  ·exact zF5 h2 (fun x hx=>hg x (List.mem_cons_of_mem _ hx)) fun k x e hx=>by
    injection e with e
    rw [←e];exact h1 x hx
  ·cases p with
   | none=>simp
   | some k=>simp [hp k c rfl (List.mem_cons_self ..)]
theorem QInv.deed {C:List Ch} {R:List Sp} (h:QInv C R):zBN C=0:=zF5 h.ups h.good fun _ _ e=>by cases e
theorem CoreOk.com {m B:Nat} {c:Core} (H:CoreOk m B c) {C:List Ch} {R:List Sp} (hq:QInv C R) {d:Dk} {h:Hd} {R0:List Rw} {W0:List (List Ch)} {u s:Nat} (U:StUp (m+50) d h R0 W0 u) (hr:zAF R0 W0=C.foldl appR (c.at c.nn)) (he:h.ep≤c.h.ep+1) (hs:s≤c.nn+1) (hB:B+1≤1000) :
 CoreOk m (B+1) (c.com C d h R0 W0 u s):=by
 have hl:=H.ps.len;have hn:c.nn<c.past.length:=by omega
 have e:c.at c.nn=c.past[c.nn]:=by unfold Core.at;rw [List.getElem?_eq_getElem hn];rfl
 have hp:=H.ps.commit hq.deed hn;rw [←e] at hp;obtain ⟨c1,c2⟩:=zPC c.nn C c.V;have h12:=hq.c12;refine ⟨U,hp,?_,?_,?_,?_,?_,?_,?_,?_,?_,hB⟩
 ·show (c.past++[C.foldl appR (c.at c.nn)])[c.nn+1]?=_;rw [List.getElem?_append_right (by omega),hl,Nat.sub_self];exact congrArg some hr.symm
 ·intro l hm;rcases List.mem_append.1 hm with hm | hm
  ·exact H.all l hm
  ·rw [List.mem_singleton.1 hm,←hr];exact U.st.now
 ·show (c.keys++[zAm C]).length=_;rw [List.length_append,H.kl];rfl
 ·intro ks hm;rcases List.mem_append.1 hm with hm | hm
  ·exact H.k12 ks hm
  ·rw [List.mem_singleton.1 hm];unfold zAm;rw [List.length_map];exact h12
 ·show max c.kf s≤c.nn+1;have:=H.kn;omega
 ·show h.ep≤_;have:=H.ep;omega
 ·show c.nn+1≤_;have:=H.nB;omega
 ·show (zBF c.nn C c.V).length≤_;have:=H.vl;omega
 ·show cntV (zBF c.nn C c.V)≤_;have:=H.vc;omega
theorem CoreOk.hist {m B:Nat} {c:Core} (H:CoreOk m B c) (C:List Ch) (d:Dk) (h:Hd) (R0:List Rw) (W0:List (List Ch)) (u s:Nat) :
 (c.st++[(((c.nn+1:Nat):Int),zAm C)]).filter (fun x=>decide (x.1>(s:Int)))=(c.com C d h R0 W0 u s).st:=by
 have hk:=H.kn;have hl:=H.kl;have e:c.st++[(((c.nn+1:Nat):Int),zAm C)]=zC0 (c.keys++[zAm C]) c.kf (c.nn+1-c.kf):=by
  unfold Core.st zC0;rw [show c.nn+1-c.kf=(c.nn-c.kf)+1 from by omega,List.range'_concat,List.map_append,List.map_singleton]
  congr 1
  ·refine List.map_congr_left fun n hn=>?_
   obtain ⟨h1,h2⟩:=List.mem_range'_1.1 hn;rw [List.getElem?_append_left (by omega)]
  ·rw [show c.kf+1+1*(c.nn-c.kf)=c.nn+1 from by omega,List.getElem?_append_right (by omega),hl,Nat.sub_self];rfl
 rw [e];show _=zC0 (c.keys++[zAm C]) (max c.kf s) (c.nn+1-max c.kf s);by_cases hs:c.kf≤s
 ·rw [zGn _ _ _ _ hs,show c.kf+(c.nn+1-c.kf)-s=c.nn+1-s from by omega,show max c.kf s=s from by omega]
 ·rw [show max c.kf s=c.kf from by omega];refine List.filter_eq_self.2 fun x hx=>?_
  obtain ⟨n,h1,_,rfl⟩:=zGF hx;simp only [decide_eq_true_eq];omega
def Core.vac (c:Core) (s:Nat):Core:={ c with frm:=max c.frm s,V:=vacV s c.V }
theorem CoreOk.vac {m B:Nat} {c:Core} (H:CoreOk m B c) {s:Nat} (hs:s≤c.nn):CoreOk m B (c.vac s):=
 ⟨H.up,H.ps.vac s (max c.frm s) (by omega),H.rows,H.all,H.kl,H.k12,H.kn,H.ep,H.nB,Nat.le_trans (show (vacV s c.V).length≤c.V.length by have:=(zEG s c.V).length_le;simpa using this) H.vl,Nat.le_trans (zJY s c.V) H.vc,H.b⟩
def Core.ck (c:Core) (d:Dk) (h:Hd) (R0:List Rw) (W0:List (List Ch)) (u:Nat):Core:={ c with d,h,R0,W0,u }
theorem CoreOk.ck {m B:Nat} {c:Core} (H:CoreOk m B c) {d:Dk} {h:Hd} {R0:List Rw} {W0:List (List Ch)} {u:Nat} (U:StUp (m+50) d h R0 W0 u) (hr:zAF R0 W0=zAF c.R0 c.W0) (he:h.ep≤c.h.ep+1) (hB:B+1≤1000):CoreOk m (B+1) (c.ck d h R0 W0 u):=
 ⟨U,H.ps,H.rows.trans (by rw [←hr];rfl),H.all,H.kl,H.k12,H.kn,by have:=H.ep;show h.ep≤_;omega,by have:=H.nB;show c.nn≤_;omega,by have:=H.vl;show c.V.length≤_;omega,by have:=H.vc;show cntV c.V≤_;omega,hB⟩
inductive ComOk (m B:Nat) (c:Core) (D:Nat→Option (Nat×Dv)) (i:Nat) (x:Dv):Nat→Nat→Core→(Nat→Option (Nat×Dv))→Prop
 | none:x.C=[]→ComOk m B c D i x x.since 0 c (setF D i none)
 | late:x.C≠[]→zBY c.keys x.R x.since=false→ComOk m B c D i x 0 9 c (setF D i none)
 | full:x.C≠[]→zBY c.keys x.R x.since=true→zAl (c.at c.nn) x.C m≠0→zAl (c.at c.nn) x.C m≤8→ComOk m B c D i x 0 (zAl (c.at c.nn) x.C m) c D
 | done (d:Dk) (h:Hd) (R0:List Rw) (W0:List (List Ch)) (u:Nat):x.C≠[]→zBY c.keys x.R x.since=true→zAl (c.at c.nn) x.C m=0→
  CoreOk m (B+1) (c.com x.C d h R0 W0 u (zA5 (c.nn+1) (setF D i none)))→(c.d.fuse=-1→d.fuse=-1)→u=zEA c.u x.C.length m→ComOk m B c D i x (c.nn+1) 0 (c.com x.C d h R0 W0 u (zA5 (c.nn+1) (setF D i none))) (setF D i none)
 | down (c':Core):x.C≠[]→zBY c.keys x.R x.since=true→zAl (c.at c.nn) x.C m=0→c.d.fuse≠-1→DkFell (m+50) c'.d→
  (∀K:Int,StOn (m+50) (c'.d.restart K) (c.h.ep+1) (c.at c.nn)∨StOn (m+50) (c'.d.restart K) (c.h.ep+1) (x.C.foldl appR (c.at c.nn)))→ComOk m B c D i x 0 10 c' D
structure ComX (m B:Nat) (c:Core) (D:Nat→Option (Nat×Dv)) (i:Nat) (x:Dv) where
 n:Nat
 k:Nat
 c':Core
 D':Nat→Option (Nat×Dv)
 ok:ComOk m B c D i x n k c' D'
theorem zA1 {D:Nat→Option (Nat×Dv)} {s i:Nat} {o:Option (Nat×Dv)} {x:Nat×Dv} (h:setF D s o i=some x):(i=s∧o=some x)∨(i≠s∧D i=some x):=by
 unfold setF at h;split at h
 ·rename_i e;exact .inl ⟨e,h⟩
 ·rename_i e;exact .inr ⟨e,h⟩
theorem DeedOk.qr {m B:Nat} {c:Core} (H:CoreOk m B c) {x:Dv} (h:DeedOk c x):QRows (c.at x.since):=(H.sees h.f h.le).qr
theorem QInv.none:QInv [] []:=⟨List.Pairwise.nil,by simp,by simp,fun c hc=>by cases hc⟩
theorem CoreOk.fresh {m B:Nat} {c:Core} (H:CoreOk m B c):DeedOk c ⟨c.nn,[],[]⟩:=⟨H.ps.le,H.kn,Nat.le_refl _,QInv.none⟩
theorem DeedOk.vac {c:Core} {x:Dv} (h:DeedOk c x) {s:Nat} (hs:s≤x.since):DeedOk (c.vac s) x:=⟨Nat.max_le.2 ⟨h.f,hs⟩,h.k,h.le,h.q⟩
theorem DeedOk.com {c:Core} {x:Dv} (h:DeedOk c x) {C:List Ch} {d:Dk} {hd:Hd} {R0:List Rw} {W0:List (List Ch)} {u s:Nat} (hs:s≤x.since):DeedOk (c.com C d hd R0 W0 u s) x:=
 ⟨h.f,Nat.max_le.2 ⟨h.k,hs⟩,Nat.le_trans h.le (Nat.le_succ _),h.q⟩
theorem ComOk.leaves {m B:Nat} {c:Core} {D:Nat→Option (Nat×Dv)} {i:Nat} {x:Dv} {n k:Nat} {c':Core} {D':Nat→Option (Nat×Dv)} (H:CoreOk m B c) (hB:B+1≤1000) (hd:∀i<4,∀x,D i=some x→DeedOk c x.2) (hf:c.d.fuse=-1) (h:ComOk m B c D i x n k c' D') :
 CoreOk m (B+1) c'∧(∀i<4,∀x,D' i=some x→DeedOk c' x.2)∧c'.d.fuse=-1:=by
 have hn:∀j<4,∀y,setF D i .none j=some y→DeedOk c y.2:=fun j hj y hy=>by
  rcases zA1 hy with ⟨_,h⟩ | ⟨_,h⟩
  ·cases h
  ·exact hd j hj y h
 cases h with
 | none h1=>exact ⟨H.more (Nat.le_succ _) hB,hn,hf⟩
 | late h1 h2=>exact ⟨H.more (Nat.le_succ _) hB,hn,hf⟩
 | full h1 h2 h3 h4=>exact ⟨H.more (Nat.le_succ _) hB,hd,hf⟩
 | done d h R0 W0 u h1 h2 h3 h4 h5=>exact ⟨h4,fun j hj y hy=>(hn j hj y hy).com (zGm _ _ hj hy),h5 hf⟩
 | down c' h1 h2 h3 h4=>exact absurd hf h4
theorem and3 (a:Int):∃s:Nat,s<4∧bits .and .i64 a 3=(s:Int):=by
 have h:(BitVec.ofInt 64 a&&& BitVec.ofInt 64 3).toNat≤3:=by
  rw [BitVec.toNat_and];exact Nat.le_trans Nat.and_le_right (by decide)
 have h2:0≤bits .and .i64 a 3∧bits .and .i64 a 3≤3:=by
  show 0≤IntKind.i64.wrap ((BitVec.ofInt 64 a&&& BitVec.ofInt 64 3).toNat:Int)∧IntKind.i64.wrap ((BitVec.ofInt 64 a&&& BitVec.ofInt 64 3).toNat:Int)≤3;generalize (BitVec.ofInt 64 a&&& BitVec.ofInt 64 3).toNat=n at *;rw [IntKind.wrap_i64];omega
 exact ⟨(bits .and .i64 a 3).toNat,by omega,by omega⟩
theorem zDs (D:Nat→Option (Nat×Dv)) (s:Nat) (a b:Option (Nat×Dv)):setF (setF D s a) s b=setF D s b:=by
 funext j
 unfold setF;split<;>rfl
theorem CoreOk.comLe {m B:Nat} {c:Core} (H:CoreOk m B c) (C:List Ch) (d:Dk) (h:Hd) (R0:List Rw) (W0:List (List Ch)) (u s:Nat) {n:Nat} (hn:n≤c.nn):(c.com C d h R0 W0 u s).at n=c.at n:=by
 have hl:=H.ps.len;unfold Core.at;show ((c.past++[C.foldl appR (c.at c.nn)])[n]?).getD []=_;rw [List.getElem?_append_left (by omega)]
def SaveOk (m B:Nat) (c c':Core):Prop:=∃d h R0 W0 u,c'=c.ck d h R0 W0 u∧CoreOk m (B+1) c'∧zAF R0 W0=zAF c.R0 c.W0∧u=0∧(c.d.fuse=-1→d.fuse=-1)
theorem SaveOk.leaves {m B:Nat} {c c':Core} (h:SaveOk m B c c') (H:CoreOk m B c) (hB:B+1≤1000) (hf:c.d.fuse=-1):CoreOk m (B+1) c'∧(∀x,DeedOk c x→DeedOk c' x)∧c'.d.fuse=-1:=by
 obtain ⟨d,h,R0,W0,u,rfl,h1,h2,_,h3⟩:=h;exact ⟨h1,fun x hx=>⟨hx.f,hx.k,hx.le,hx.q⟩,h3 hf⟩
def zLH (w:World) (b:Nat):Nat:=match w.heap[b]? with | some (.stringIter _ p)=>p | _=>0
theorem zEg (w:World) (s:ByteArray) (p:Nat):zLH (w.iter s p) w.heap.size=p:=by unfold zLH;rw [World.iter_heap]
theorem zPG (q p since nn:Nat) (V:List (ByteArray×List Vn)) (C:List Ch) (R:List Sp) (name frm lo hi:ByteArray) (L:List Rw) (hlo:(if slt (loB name) frm then frm else loB name)=lo) (hhi:hiB name=hi) (hL:(inC lo hi C).foldl appR (zBm V (hasB lo hi) since)=L)
 (hnd:(V.map (·.1)).Nodup) (hC:C.length≤1000) (hR:R.length≤40) (hVl:V.length≤50000) (hV:∀e∈V,e.2.length≤100000) (hks:∀r∈L,r.key.size≤300) (hk:name.size≤200) (h1:scnN L R lo hi 1≠0) :
 Does Tryz.prog 123 #[.pointer (some ⟨q,0,none⟩),.string name,.string frm] [ViewR q p since C R,VerR p nn V]
  (fun _:Unit=>(.tuple #[Ms.z.v,.bool false,errV (scnN L R lo hi 1)],[ViewR q p since C (scnB L R lo hi 1),VerR p nn V])):=by
 have HMS:=fun w=>zDc name w (by omega)
 have HSC:=zCm q p since nn V C R lo hi 1 L hL hnd hC hR hVl hV hks;have e1:scnO L R lo hi 1=[]:=by unfold scnO;rw [if_neg h1]
 rw [e1] at HSC;rw [hhi] at HMS;unfold Ms.v Ms.z;dsimp only [List.length_nil,List.flatMap_nil] at HSC ⊢;have hl2:(if Op.bytesLess (loB name).toList frm.toList=true then frm else loB name)=lo:=hlo;generalize loB name=l0 at *;generalize scnB L R lo hi 1=R2 at *;rcases zAk (scnN L R lo hi 1) with ⟨h0,e⟩ | ⟨M,h0,e⟩
 ·exact absurd h0 h1
 ·rw [e] at HSC ⊢;clear e h0 h1 e1 hlo hhi hL hnd hVl hV hks;intro S W w L0 hO;simp only [CA] at hO;(replace hf:=fa_ hO);go_enter Tryz.func123,Tryz.ntmps123;go_wp2_with (first|(go_at_call 180;(with_reducible apply Calls.mono (HMS _);refine cu_ ?_;clear hO hf;intro w8 hO hf))|(go_at_call 56;(with_reducible apply Does.use hO (HSC);exact tk_;refine du_ ?_;clear hO hf;intro x9 w9 hO hf;(obtain ⟨za,zc⟩:=x9;dsimp only at hO ⊢;(replace hf:=fa_ hO))))|(refine sq_ ?_;clear hO hf;intro w9 hO hf));(refine zAD rfl fun K hK=>?_;simp [results,Tryz.results123,go_sem,hf];refine hK _ ⟨(),?_,?_⟩)
  ·rfl
  ·(try simp only [CA]);exact hO.cut sb_
theorem zNx (q p since nn:Nat) (V:List (ByteArray×List Vn)) (C:List Ch) (R:List Sp) (name frm lo hi:ByteArray) (hlo:(if slt (loB name) frm then frm else loB name)=lo) (hhi:hiB name=hi) (hL:(inC lo hi C).foldl appR (zBm V (hasB lo hi) since)=[])
 (hnd:(V.map (·.1)).Nodup) (hC:C.length≤1000) (hR:R.length≤40) (hVl:V.length≤50000) (hV:∀e∈V,e.2.length≤100000) (hk:name.size≤200) (h1:scnN [] R lo hi 1=0) :
 Does Tryz.prog 123 #[.pointer (some ⟨q,0,none⟩),.string name,.string frm] [ViewR q p since C R,VerR p nn V]
  (fun _:Unit=>(.tuple #[Ms.z.v,.bool false,.nilIface],[ViewR q p since C (scnB [] R lo hi 1),VerR p nn V])):=by
 have HMS:=fun w=>zDc name w (by omega)
 have HSC:=zCm q p since nn V C R lo hi 1 [] hL hnd hC hR hVl hV (fun _ h=>nomatch h);have e1:scnO [] R lo hi 1=[]:=by unfold scnO;rw [if_pos h1];rfl
 rw [e1,h1] at HSC;rw [hhi] at HMS;unfold Ms.v Ms.z;dsimp only [List.length_nil,List.flatMap_nil] at HSC ⊢;rw [show errV 0=.nilIface from rfl] at HSC;have hl2:(if Op.bytesLess (loB name).toList frm.toList=true then frm else loB name)=lo:=hlo;generalize loB name=l0 at *;generalize scnB [] R lo hi 1=R2 at *;clear h1 e1 hlo hhi hL hnd hVl hV;intro S W w L0 hO;simp only [CA] at hO;(replace hf:=fa_ hO);go_enter Tryz.func123,Tryz.ntmps123;go_wp2_with (first|(go_at_call 180;(with_reducible apply Calls.mono (HMS _);refine cu_ ?_;clear hO hf;intro w8 hO hf))|(go_at_call 56;(with_reducible apply Does.use hO (HSC);exact tk_;refine du_ ?_;clear hO hf;intro x9 w9 hO hf;(obtain ⟨za,zc⟩:=x9;dsimp only at hO ⊢;(replace hf:=fa_ hO))))|(refine sq_ ?_;clear hO hf;intro w9 hO hf));(refine zAD rfl fun K hK=>?_;simp [results,Tryz.results123,go_sem,hf];refine hK _ ⟨(),?_,?_⟩)
 ·rfl
 ·(try simp only [CA]);exact hO.cut sb_
theorem zDh (q p since nn n:Nat) (V:List (ByteArray×List Vn)) (C:List Ch) (R:List Sp) (name frm lo hi v:ByteArray) (t:List Rw) (hlo:(if slt (loB name) frm then frm else loB name)=lo) (hhi:hiB name=hi) (hL:(inC lo hi C).foldl appR (zBm V (hasB lo hi) since)=⟨msgB name n,v⟩::t)
 (hnd:(V.map (·.1)).Nodup) (hC:C.length≤1000) (hR:R.length≤40) (hVl:V.length≤50000) (hV:∀e∈V,e.2.length≤100000) (hk:name.size≤200) (hks:∀r∈(⟨msgB name n,v⟩::t:List Rw),r.key.size≤300) (h1:scnN (⟨msgB name n,v⟩::t) R lo hi 1=0) (hn:n<1000000) (hv:v.size≤100) {φ:World→Prop} (hφ:∀w,φ w→LibOk w) :
 Does Tryz.prog 123 #[.pointer (some ⟨q,0,none⟩),.string name,.string frm] [ViewR q p since C R,VerR p nn V,.imm φ]
  (fun _:Unit=>(.tuple #[(msOf n v).1.v,.bool (decide ((msOf n v).2=0)),errV (msOf n v).2],[ViewR q p since C (scnB (⟨msgB name n,v⟩::t) R lo hi 1),VerR p nn V,.imm φ])):=by
 have HMS:=fun w=>zDc name w (by omega)
 have HMP:=fun w h=>zH3 (numP n 6:Nat) v hv w h
 rw [show msOf (n:Int) v=msOf ((numP n 6:Nat):Int) v from rfl];generalize msOf ((numP n 6:Nat):Int) v=m at *;obtain ⟨⟨ma,mb,mc,md⟩,m2⟩:=m;unfold Ms.v at HMP ⊢;dsimp only at HMP ⊢;have hm2:errV m2=.nilIface∧decide (m2=0)=true∨∃M,errV m2=.iface 124 (.int .i64 M)∧decide (m2=0)=false:=by
  rcases zAk m2 with ⟨h0,e⟩ | ⟨M,h0,e⟩
  ·exact .inl ⟨e,by simp [h0]⟩
  ·exact .inr ⟨M,e,by simp [h0]⟩
 generalize errV m2=ev at *;generalize decide (m2=0)=bv at *;have hev:=Lib.hid hm2;clear hm2;have HSC:=zCm q p since nn V C R lo hi 1 _ hL hnd hC hR hVl hV hks;have e1:scnO (⟨msgB name n,v⟩::t) R lo hi 1=[⟨msgB name n,v⟩]:=by unfold scnO;rw [if_pos h1];rfl
 rw [e1,h1] at HSC;have hhs:hi.size=name.size+3:=by
  rw [←hhi];unfold hiB;simp only [ByteArray.size_append];show 1+1+(name.size+1)=_;omega
 have hks2:hi.size≤203∧name.size+3≤hi.size∧hi.size≤name.size+3:=by omega
 obtain ⟨hs1,hs2,hs3⟩:=hks2;replace hhs:=Lib.hid hhs;rw [hhi] at HMS;dsimp only [List.length_cons,List.length_nil,List.flatMap_cons,List.flatMap_nil] at HSC ⊢;rw [show errV 0=.nilIface from rfl] at HSC;have hl2:(if Op.bytesLess (loB name).toList frm.toList=true then frm else loB name)=lo:=hlo;generalize loB name=l0 at *;generalize scnB (⟨msgB name n,v⟩::t) R lo hi 1=R2 at *;clear h1 e1 hlo hhi hL hnd hVl hV hks;intro S W w L0 hO;simp only [CA] at hO;(replace hf:=fa_ hO);go_enter Tryz.func123,Tryz.ntmps123;go_upto_region 7 with (first|(go_at_call 180;(with_reducible apply Calls.mono (HMS _);refine cu_ ?_;clear hO hf;intro w8 hO hf))|(go_at_call 56;(with_reducible apply Does.use hO (HSC);exact tk_;refine du_ ?_;clear hO hf;intro x9 w9 hO hf;(obtain ⟨za,zc⟩:=x9;dsimp only at hO ⊢;(replace hf:=fa_ hO))))|(refine sq_ ?_;clear hO hf;intro w9 hO hf))
 have hz:=rowV (hO.factOf (r:=Row2 177 2 za (0+1) zc (List.flatMap rwC [⟨msgB name n,v⟩])) pk_);rcases hz with hz | ⟨b,off,rfl,hc⟩
 ·cases hz
 ·clear hc;have hat:∀j,j<6→∀h,(msgB name n)[name.size+3+j]'h=d8 (numD n j):=fun j hj h=>zOF name hn hj h
  generalize hkk:msgB name n=k at *;have hsz:k.size=name.size+9:=by rw [←hkk];exact zAx name n
  clear hkk;have hds:(k.extract hi.size k.size).size=6:=by rw [ByteArray.size_extract];omega
  have hdd:∀j,j<6→∀h,(k.extract hi.size k.size)[j]'h=d8 (numD n j):=fun j hj h=>by
   have:=hat j hj (by omega);rw [←this,ByteArray.getElem_extract]
   congr 1
   omega
  have hsz2:hi.size≤k.size∧k.size≤hi.size+6∧hi.size+6≤k.size:=by omega
  clear hsz;obtain ⟨hs4,hs5,hs6⟩:=hsz2;clear hat;generalize hdk:k.extract hi.size k.size=d at *;have hds1:=Lib.hid hds;have hdd1:=Lib.hid hdd;clear hds hdd;(refine rg_ hO ((0,0)::(0,1)::(0,2)::(1,3)::(0,4)::(1,5)::(1,6)::(0,7)::(5,8)::[]) ?_;clear hO;intro w9 hO;replace hf:=fa_ hO;(repeat (first|(apply zAG _ rfl rfl rfl;focus (intro w8 K8 hK8;(repeat (first | go_skip | go_guarded | go_step));exact hK8))|(apply zAJ _ rfl rfl rfl;focus (intro w8 hx8 K8 hK8;have hO:=hO.ext hx8;(replace hf:=fa_ hO);(have hz:=rowV (hO.factOf (r:=Row2 177 2 (some ⟨b,off,none⟩) (0+1) zc (List.flatMap rwC [⟨k,v⟩])) pk_);have d0:=hz.get (i:=0) rfl;have d1:=hz.get (i:=1) rfl;simp only [Nat.add_zero] at d0);(repeat (first | go_skip | go_guarded | go_step));exact hK8))|(apply zAL _ rfl;(focus (intro w8 hx8 K8 hK8;have hO:=hO.ext hx8;(replace hf:=fa_ hO);(repeat (first | go_skip | go_guarded | go_step | fail));(first | exact xt_ | exact hK8 _ xt_)));(focus (exact rfl));intro w8 hx8;replace hO:=hO.ext hx8;clear hx8;(replace hf:=fa_ hO)))));refine zAE rfl ?_;intro K8 hK8;(repeat (first | go_skip | go_guarded | go_step));refine hK8 _ _ trivial ?_;clear hK8 K8;refine zAA ?_;go_wp2;go_loopw [12,14] (fun v12 v14 wr=>∃j:Nat,j≤6∧v12=.int .i64 (numP n j)∧wr=w9.iter d j) (fun v12 v14 wr=>6-zLH wr w9.heap.size)
  case atStart=>exact ⟨0,by omega,rfl,rfl⟩
  case round=>
   obtain ⟨j,hj,rfl,rfl⟩:=hrel;by_cases hlt:j<6
   ·obtain ⟨n1,n2,n3⟩:=zKe hn hlt;have hlt2:j<d.size:=by have:=hds1.out;omega
    have hd8:(d8 (numD n j)).toNat=48+numD n j:=zA2 _ n2;have hde:d[j].toNat=48+numD n j:=by rw [hdd1.out j hlt hlt2];exact hd8
    have hnx:=fun ty=>run_next_ascii (P:=Tryz.prog) w9 d j ty hlt2 (by omega)
    rw [hde] at hnx;go_wp2;exact ⟨⟨j+1,by omega,by rw [n1];go_num,rfl⟩,by rw [zEg,zEg];omega⟩
   ·obtain rfl:j=6:=by omega
    have hnx:=fun ty=>run_next_end (P:=Tryz.prog) w9 d 6 ty (by have:=hds1.out;omega)
    replace hO:=hO.ext ((Ext.refl w9).iter d 6);(replace hf:=fa_ hO);have hz:=rowV (hO.factOf (r:=Row2 177 2 (some ⟨b,off,none⟩) (0+1) zc (List.flatMap rwC [⟨k,v⟩])) pk_);have d1:(w9.iter d 6).cell? ⟨b,off+1,none⟩=some (.string v):=hz.get (i:=1) rfl;clear hz;go_upto_region 12 with (first|(go_at_call 181;(with_reducible apply Calls.mono (HMP _ (hφ _ (Own.immOf (φ:=φ) hO pk_)));refine cu_ ?_;clear hO hf;intro w8 hO hf))|(refine sq_ ?_;clear hO hf;intro w9 hO hf))
    clear d1 hnx;rcases hev.out with ⟨rfl,rfl⟩ | ⟨M,rfl,rfl⟩
    ·(refine rg_ hO ((1,0)::(0,1)::(0,2)::(0,3)::(5,4)::(0,5)::(0,6)::[]) ?_;clear hO;intro w9 hO;replace hf:=fa_ hO;(refine ss_ hO ?_;clear hO;(try clear hf);intro w9 hO hf));(refine ds_ ?_;clear hO hf;intro w9 hO hf);(refine ss_ hO ?_;clear hO hf;intro w9 hO hf);refine zAA ?_;go_wp2;(refine zAD rfl fun K hK=>?_;simp [results,Tryz.results123,go_sem,hf];refine hK _ ⟨(),?_,?_⟩)
     ·rfl
     ·(try simp only [CA]);exact hO.cut sb_
    ·(refine rg_ hO ((1,0)::(0,1)::(0,2)::(0,3)::(5,4)::(0,5)::(0,6)::[]) ?_;clear hO;intro w9 hO;replace hf:=fa_ hO;(refine ss_ hO ?_;clear hO;(try clear hf);intro w9 hO hf));(refine ds_ ?_;clear hO hf;intro w9 hO hf);(refine ss_ hO ?_;clear hO hf;intro w9 hO hf);refine zAA ?_;go_wp2;(refine zAD rfl fun K hK=>?_;simp [results,Tryz.results123,go_sem,hf];refine hK _ ⟨(),?_,?_⟩)
     ·rfl
     ·(try simp only [CA]);exact hO.cut sb_
def zTy:Value→ByteArray
 | .string s=>s
 | _=>⟨#[]⟩
def FrmOk (name frm:ByteArray) (k:Nat):Prop:=(k=0∧frm=⟨#[]⟩)∨∃n,n<1000000∧k=n+1∧frm=msgB name n++nul
open Classical in
noncomputable def zDj (name frm:ByteArray):Nat:=if h:∃n,n<1000000∧frm=msgB name n++nul then 1000000-h.choose else 1000001
theorem zN2 {name:ByteArray} {n m:Nat} (hn:n<1000000) (hm:m<1000000) (h:msgB name n++nul=msgB name m++nul):n=m:=by
 have h1:=zDD (msgB name m) (msgB name n);rw [←h,zEj,zJg name m n hm hn] at h1;have h2:=zDD (msgB name n) (msgB name m);rw [h,zEj,zJg name n m hn hm] at h2;simp at h1 h2;omega
theorem FrmOk.meas {name frm:ByteArray} {k:Nat} (h:FrmOk name frm k):zDj name frm=1000001-k:=by
 unfold zDj;rcases h with ⟨rfl,rfl⟩ | ⟨n,hn,rfl,rfl⟩
 ·rw [dif_neg];rintro ⟨n,_,h⟩;have:=congrArg ByteArray.size h;rw [ByteArray.size_append,zAx] at this;change 0=_ at this;omega
 ·have h0:∃m,m<1000000∧msgB name n++nul=msgB name m++nul:=⟨n,hn,rfl⟩
  rw [dif_pos h0];have:=zN2 hn h0.choose_spec.1 h0.choose_spec.2;omega
theorem FrmOk.lo {name frm:ByteArray} {k:Nat} (hn:zAN name) (h:FrmOk name frm k):∃lo,(if slt (loB name) frm then frm else loB name)=lo∧LoOk name k lo:=by
 rcases h with ⟨rfl,rfl⟩ | ⟨n,hn2,rfl,rfl⟩
 ·refine ⟨loB name,?_,.inl ⟨rfl,rfl⟩⟩;rw [if_neg];rw [show slt (loB name) ⟨#[]⟩=false from by unfold slt;rw [ByteArray.toList_eq ⟨#[]⟩];cases (loB name).toList<;>rfl];simp
 ·exact ⟨_,if_pos (zJP hn n),.inr ⟨n,hn2,rfl,rfl⟩⟩
theorem zPY (b0 b1 b2 b3 b4 b5 q p since nn:Nat) (V:List (ByteArray×List Vn)) (rows:List Rw) (hs:Seen V since rows) (C:List Ch) (R:List Sp) (name:ByteArray) (u:Qu) (now long:Int) (res:Ms×Nat×List Ch×List Sp)
 (hr:Recv rows name u now long C R (loB name) res) (hI:QInv C R) (hn:zAN name) (hud:u.dead.size≤6) (hn0:0≤now) (hn1:now≤1000000) (hl0:0≤long) (hl1:long≤1000000) {φ:World→Prop} (hφ:∀w,φ w→LibOk w) :
 Does Tryz.prog 122 #[.pointer (some ⟨b0,0,none⟩),.pointer (some ⟨b1,0,none⟩),.pointer (some ⟨b2,0,none⟩),.pointer (some ⟨b3,0,none⟩),.pointer (some ⟨b4,0,none⟩),.pointer (some ⟨b5,0,none⟩)] [Var b0 [.pointer (some ⟨q,0,none⟩)] 59,Var b1 [.string name] 9,Var b2 [.int .i64 now] 3,Var b3 [.int .i64 u.next,.int .i64 u.tries,.string u.dead] 157,Var b4 [.int .i64 long] 3,Var b5 (msC Ms.z) 92,ViewR q p since C R,VerR p nn V,.imm φ]
  (fun _:Unit=>(errV res.2.1,[Var b0 [.pointer (some ⟨q,0,none⟩)] 59,Var b1 [.string name] 9,Var b2 [.int .i64 now] 3,Var b3 [.int .i64 u.next,.int .i64 u.tries,.string u.dead] 157,Var b4 [.int .i64 long] 3,Var b5 (msC res.1) 92,ViewR q p since res.2.2.1 res.2.2.2,VerR p nn V,.imm φ])):=by
 obtain ⟨un,ut,ud⟩:=u;have hk6:name.size≤6:=hn.2.1;unfold msC Ms.z;dsimp only at hud ⊢;have HS:=Lib.hid hs;have HNM:=Lib.hid hn;clear hs hn;intro S W w L0 hO;simp only [CA] at hO;(replace hf:=fa_ hO);go_enter Tryz.func122,Tryz.ntmps122;go_wp2_with (refine sq_ ?_;clear hO hf;intro w9 hO hf);have hO9:=hO;clear hO hf;have HR0:=Lib.hid hr;have HI0:=Lib.hid hI;clear hr hI;go_loopw [7] (fun v7 wr=>∃(C':List Ch) (R':List Sp) (frm:ByteArray),v7=.string frm∧Hid (QInv C' R')∧Hid (∃k lo,FrmOk name frm k∧LoOk name k lo∧(if slt (loB name) frm then frm else loB name)=lo∧Recv rows name ⟨un,ut,ud⟩ now long C' R' lo res)∧Own S W wr ([Var b0 [.pointer (some ⟨q,0,none⟩)] 59,Var b1 [.string name] 9,Var b2 [.int .i64 now] 3,Var b3 [.int .i64 un,.int .i64 ut,.string ud] 157,Var b4 [.int .i64 long] 3,Var b5 [.int .i64 0,.int .i64 0,.int .i64 0,.string ⟨#[]⟩] 92,ViewR q p since C' R',VerR p nn V,.imm φ]++L0)) (fun v7 _=>zDj name (zTy v7))
 case atStart=>
  obtain ⟨lo,h1,h2⟩:=FrmOk.lo HNM.out (k:=0) (frm:=⟨#[]⟩) (.inl ⟨rfl,rfl⟩);have h3:lo=loB name:=by rcases h2 with ⟨_,h⟩ | ⟨n,_,h,_⟩;exact h;omega
  subst h3;exact ⟨C,R,⟨#[]⟩,rfl,HI0,Lib.hid ⟨0,_,.inl ⟨rfl,rfl⟩,h2,h1,HR0.out⟩,by (try simp only [CA]);exact hO9.cut sb_⟩
 case round=>
  clear hO9 HR0 HI0;obtain ⟨C',R',frm,rfl,HI,HR,hO⟩:=hrel;rename World=>w1
  simp only [List.cons_append,List.nil_append] at hO;have hc12:=HI.out.c12;have hr40:=HI.out.r40;obtain ⟨k,lo,hfr,hlo,hle,hr⟩:=HR.out;have HM:=Lib.hid hfr.meas;clear HR;(replace hf:=fa_ hO);have hks:=zFA HS.out.qr HI.out lo (hiB name);have hL0:=HS.out.scan C' lo (hiB name);cases hr with
  | bad hL h1 e=>
   have HFN:=zPG q p since nn V C' R' name frm lo (hiB name) _ hle rfl (hL0.trans hL) HS.out.nd (by omega) (by omega) HS.out.vl HS.out.v1 (hL ▸ hks) (by omega) h1;unfold Ms.v at HFN;unfold Ms.z at HFN e;dsimp only at HFN;generalize scnB _ R' lo (hiB name) 1=R2 at *;generalize scnN _ R' lo (hiB name) 1=N at *;have HE:=Lib.hid e;clear e;rcases zAk N with ⟨h0,e⟩ | ⟨M,h0,e⟩
   ·exact absurd h0 h1
   ·rw [e] at HFN;have HV:=Lib.hid e;clear e h0 h1 hL hL0 hks hle hlo hfr;go_wp2_with (first|(go_at_call 123;(with_reducible apply Does.use hO (HFN);exact tk_;refine du_ ?_;clear hO;(try clear hf);intro x9 w9 hO hf))|(refine sq_ ?_;clear hO;(try clear hf);intro w9 hO hf));go_ret;rw [HE.out];dsimp only;refine ⟨(),(by rw [HV.out];rfl),?_⟩;(try simp only [CA]);exact hO.cut sb_
  | empty hL h1 e=>
   have HFN:=zNx q p since nn V C' R' name frm lo (hiB name) hle rfl (hL0.trans hL) HS.out.nd (by omega) (by omega) HS.out.vl HS.out.v1 (by omega) h1;unfold Ms.v at HFN;unfold Ms.z at HFN e;dsimp only at HFN;generalize scnB _ R' lo (hiB name) 1=R2 at *;have HE:=Lib.hid e;clear e h1 hL hL0 hks hle hlo hfr;go_wp2_with (first|(go_at_call 123;(with_reducible apply Does.use hO (HFN);exact tk_;refine du_ ?_;clear hO;(try clear hf);intro x9 w9 hO hf))|(refine sq_ ?_;clear hO;(try clear hf);intro w9 hO hf));go_ret;rw [HE.out];dsimp only;refine ⟨(),rfl,?_⟩;(try simp only [CA]);exact hO.cut sb_
  | @text _ _ _ _ n v t hL h1 hn2 hv h2 e=>
   have HFN:=zDh q p since nn n V C' R' name frm lo (hiB name) v t hle rfl (hL0.trans hL) HS.out.nd (by omega) (by omega) HS.out.vl HS.out.v1 (by omega) (hL ▸ hks) h1 hn2 (by omega) hφ;have hz:(msOf n v).1=Ms.z:=by
    rcases zBn n v with ⟨m,hm,_⟩ | ⟨hm,_⟩
    ·rw [hm] at h2;exact absurd rfl h2
    ·rw [hm]
   rw [hz] at HFN;unfold Ms.v at HFN;unfold Ms.z at HFN e;dsimp only at HFN;generalize scnB _ R' lo (hiB name) 1=R2 at *;rw [decide_eq_false h2] at HFN;generalize (msOf n v).2=N at *;have HE:=Lib.hid e;clear e;rcases zAk N with ⟨h0,e⟩ | ⟨M,h0,e⟩
   ·exact absurd h0 h2
   ·rw [e] at HFN;have HV:=Lib.hid e;clear e h0 h1 h2 hz hL hL0 hks hle hlo hfr;go_wp2_with (first|(go_at_call 123;(with_reducible apply Does.use hO (HFN);exact tk_;refine du_ ?_;clear hO;(try clear hf);intro x9 w9 hO hf))|(refine sq_ ?_;clear hO;(try clear hf);intro w9 hO hf));go_ret;rw [HE.out];dsimp only;refine ⟨(),(by rw [HV.out];rfl),?_⟩;(try simp only [CA]);exact hO.cut sb_
  | @skip _ _ _ _ n v t hL h1 hn2 hv h2 h3 h=>
   have HFN:=zDh q p since nn n V C' R' name frm lo (hiB name) v t hle rfl (hL0.trans hL) HS.out.nd (by omega) (by omega) HS.out.vl HS.out.v1 (by omega) (hL ▸ hks) h1 hn2 (by omega) hφ;have HMG:∀w,LibOk w→Calls Tryz.prog 124 #[.string name,.int .i64 (n:Int)] w fun e w'=>e=.returned (.string (msgB name n))∧Ext w w':=fun w h=>zBD name n w (by omega) h (by omega)
   have HPT:∀w,Calls Tryz.prog 114 #[.string (msgB name n)] w fun e w'=>e=.returned (.agg #[.string (msgB name n),.string (msgB name n++nul)])∧Ext w w':=fun w=>zDS (msgB name n) w (by rw [zAx];omega)
   have hkn:k≤n:=hlo.num hn2 (List.mem_filter.1 (show (⟨msgB name n,v⟩:Rw)∈inR lo (hiB name) (C'.foldl appR rows) by rw [hL];exact List.mem_cons_self ..)).2;have hfr2:FrmOk name (msgB name n++nul) (n+1):=.inr ⟨n,hn2,rfl,rfl⟩;have HF2:=Lib.hid hfr2;have HM2:=Lib.hid (show zDj name (msgB name n++nul)<zDj name frm by rw [hfr.meas,hfr2.meas];have:=hfr2;omega);clear hfr2;have hmm:(msOf n v).1.num=n∧¬(msOf n v).1.bad:=by
    rcases zBn n v with ⟨m,hm,hmn,hmb,_⟩ | ⟨hm,_⟩
    ·rw [hm];exact ⟨hmn,hmb⟩
    ·rw [hm] at h2;cases h2
   rw [h2,show errV 0=.nilIface from rfl,decide_eq_true (show (0:Nat)=0 from rfl)] at HFN;generalize (msOf n v).1=mm at *;obtain ⟨mn,mt,mu,mb⟩:=mm;obtain ⟨hmn,hmb⟩:=hmm;dsimp only at hmn;subst hmn;unfold Ms.v at HFN;dsimp only at *;have hmm:¬Ms.bad ⟨n,mt,mu,mb⟩:=hmb;unfold Ms.bad at hmb;dsimp only at hmb;have hm1:0≤mt∧mt≤9∧0≤mu∧mu≤2000000:=by omega
   obtain ⟨hm1,hm2,hm3,hm4⟩:=hm1;clear hmb;have HI2:=Lib.hid (HI.out.scan (⟨msgB name n,v⟩::t) lo (hiB name) 1);have HR2:=Lib.hid h;generalize scnB _ R' lo (hiB name) 1=R2 at *;clear h h1 h2 hL hL0 hks hle hlo hfr hmm;go_wp2_with (first|(go_at_call 123;(with_reducible apply Does.use hO (HFN);exact tk_;refine du_ ?_;clear hO;(try clear hf);intro x9 w9 hO hf))|(go_at_call 124;(with_reducible apply Calls.mono (HMG _ (hφ _ (Own.immOf (φ:=φ) hO pk_)));refine cu_ ?_;clear hO;(try clear hf);intro w8 hO hf))|(go_at_call 114;(with_reducible apply Calls.mono (HPT _);refine cu_ ?_;clear hO;(try clear hf);intro w8 hO hf))|(refine sq_ ?_;clear hO;(try clear hf);intro w9 hO hf));all_goals try (exfalso;omega;done)
   exact ⟨⟨C',R2,msgB name n++nul,rfl,HI2,Lib.hid ⟨n+1,_,HF2.out,.inr ⟨n,hn2,rfl,rfl⟩,if_pos (zJP HNM.out n),HR2.out⟩,by (try simp only [CA]);exact hO.cut sb_⟩,HM2.out⟩
  | @lost _ _ _ _ n v t hL h1 hn2 hv h2 h3 h4 h5 e=>
   have HFN:=zDh q p since nn n V C' R' name frm lo (hiB name) v t hle rfl (hL0.trans hL) HS.out.nd (by omega) (by omega) HS.out.vl HS.out.v1 (by omega) (hL ▸ hks) h1 hn2 (by omega) hφ;have HMG:∀w,LibOk w→Calls Tryz.prog 124 #[.string name,.int .i64 (n:Int)] w fun e w'=>e=.returned (.string (msgB name n))∧Ext w w':=fun w h=>zBD name n w (by omega) h (by omega)
   have HPT:∀w,Calls Tryz.prog 114 #[.string (msgB name n)] w fun e w'=>e=.returned (.agg #[.string (msgB name n),.string (msgB name n++nul)])∧Ext w w':=fun w=>zDS (msgB name n) w (by rw [zAx];omega)
   have hkn:k≤n:=hlo.num hn2 (List.mem_filter.1 (show (⟨msgB name n,v⟩:Rw)∈inR lo (hiB name) (C'.foldl appR rows) by rw [hL];exact List.mem_cons_self ..)).2;have hfr2:FrmOk name (msgB name n++nul) (n+1):=.inr ⟨n,hn2,rfl,rfl⟩;have HF2:=Lib.hid hfr2;have HM2:=Lib.hid (show zDj name (msgB name n++nul)<zDj name frm by rw [hfr.meas,hfr2.meas];have:=hfr2;omega);clear hfr2;have hmm:(msOf n v).1.num=n∧¬(msOf n v).1.bad:=by
    rcases zBn n v with ⟨m,hm,hmn,hmb,_⟩ | ⟨hm,_⟩
    ·rw [hm];exact ⟨hmn,hmb⟩
    ·rw [hm] at h2;cases h2
   rw [h2,show errV 0=.nilIface from rfl,decide_eq_true (show (0:Nat)=0 from rfl)] at HFN;generalize (msOf n v).1=mm at *;obtain ⟨mn,mt,mu,mb⟩:=mm;obtain ⟨hmn,hmb⟩:=hmm;dsimp only at hmn;subst hmn;unfold Ms.v at HFN;dsimp only at *;have hmm:¬Ms.bad ⟨n,mt,mu,mb⟩:=hmb;unfold Ms.bad at hmb;dsimp only at hmb;have hm1:0≤mt∧mt≤9∧0≤mu∧mu≤2000000:=by omega
   obtain ⟨hm1,hm2,hm3,hm4⟩:=hm1;clear hmb;have HI2:=HI.out.scan (⟨msgB name n,v⟩::t) lo (hiB name) 1;have HB:=zI7 q p since nn V (valR rows) C' (scnB (⟨msgB name n,v⟩::t) R' lo (hiB name) 1) name ⟨un,ut,ud⟩ ⟨n,mt,mu,mb⟩ (by dsimp only;omega) (by dsimp only;omega) (by omega) (by omega) HI.out.ups hud HS.out.rd HS.out.val (HI2.put _).val HI2.r40 HS.out.v6 hφ;generalize scnB _ R' lo (hiB name) 1=R2 at *;unfold Ms.z at e;generalize zAh (valR rows) C' R2 name ⟨un,ut,ud⟩ ⟨n,mt,mu,mb⟩=b at *;have HE:=Lib.hid e;clear e;obtain ⟨ba,bc,br⟩:=b;unfold Qu.v Ms.v at HB;dsimp only at HB h5 HE;rcases zAk ba with ⟨h0,e⟩ | ⟨M,h0,e⟩
   ·exact absurd h0 h5
   ·rw [e] at HB;have HV:=Lib.hid e;clear HI2 e h0 h1 h2 hL hL0 hks hle hlo hfr h5 hmm;go_wp2_with (first|(go_at_call 123;(with_reducible apply Does.use hO (HFN);exact tk_;refine du_ ?_;clear hO;(try clear hf);intro x9 w9 hO hf))|(go_at_call 124;(with_reducible apply Calls.mono (HMG _ (hφ _ (Own.immOf (φ:=φ) hO pk_)));refine cu_ ?_;clear hO;(try clear hf);intro w8 hO hf))|(go_at_call 114;(with_reducible apply Calls.mono (HPT _);refine cu_ ?_;clear hO;(try clear hf);intro w8 hO hf))|(go_at_call 125;(with_reducible apply Does.use hO (HB);exact tk_;refine du_ ?_;clear hO;(try clear hf);intro x9 w9 hO hf))|(refine sq_ ?_;clear hO;(try clear hf);intro w9 hO hf));all_goals try (exfalso;omega;done)
    go_ret;rw [HE.out];dsimp only;refine ⟨(),(by rw [HV.out];rfl),?_⟩;(try simp only [CA]);exact hO.cut sb_
  | @bury _ _ _ _ n v t hL h1 hn2 hv h2 h3 h4 h5 h=>
   have HFN:=zDh q p since nn n V C' R' name frm lo (hiB name) v t hle rfl (hL0.trans hL) HS.out.nd (by omega) (by omega) HS.out.vl HS.out.v1 (by omega) (hL ▸ hks) h1 hn2 (by omega) hφ;have HMG:∀w,LibOk w→Calls Tryz.prog 124 #[.string name,.int .i64 (n:Int)] w fun e w'=>e=.returned (.string (msgB name n))∧Ext w w':=fun w h=>zBD name n w (by omega) h (by omega)
   have HPT:∀w,Calls Tryz.prog 114 #[.string (msgB name n)] w fun e w'=>e=.returned (.agg #[.string (msgB name n),.string (msgB name n++nul)])∧Ext w w':=fun w=>zDS (msgB name n) w (by rw [zAx];omega)
   have hkn:k≤n:=hlo.num hn2 (List.mem_filter.1 (show (⟨msgB name n,v⟩:Rw)∈inR lo (hiB name) (C'.foldl appR rows) by rw [hL];exact List.mem_cons_self ..)).2;have hfr2:FrmOk name (msgB name n++nul) (n+1):=.inr ⟨n,hn2,rfl,rfl⟩;have HF2:=Lib.hid hfr2;have HM2:=Lib.hid (show zDj name (msgB name n++nul)<zDj name frm by rw [hfr.meas,hfr2.meas];have:=hfr2;omega);clear hfr2;have hmm:(msOf n v).1.num=n∧¬(msOf n v).1.bad:=by
    rcases zBn n v with ⟨m,hm,hmn,hmb,_⟩ | ⟨hm,_⟩
    ·rw [hm];exact ⟨hmn,hmb⟩
    ·rw [hm] at h2;cases h2
   rw [h2,show errV 0=.nilIface from rfl,decide_eq_true (show (0:Nat)=0 from rfl)] at HFN;generalize (msOf n v).1=mm at *;obtain ⟨mn,mt,mu,mb⟩:=mm;obtain ⟨hmn,hmb⟩:=hmm;dsimp only at hmn;subst hmn;unfold Ms.v at HFN;dsimp only at *;have hmm:¬Ms.bad ⟨n,mt,mu,mb⟩:=hmb;unfold Ms.bad at hmb;dsimp only at hmb;have hm1:0≤mt∧mt≤9∧0≤mu∧mu≤2000000:=by omega
   obtain ⟨hm1,hm2,hm3,hm4⟩:=hm1;clear hmb;have HI1:=HI.out.scan (⟨msgB name n,v⟩::t) lo (hiB name) 1;have HB:=zI7 q p since nn V (valR rows) C' (scnB (⟨msgB name n,v⟩::t) R' lo (hiB name) 1) name ⟨un,ut,ud⟩ ⟨n,mt,mu,mb⟩ (by dsimp only;omega) (by dsimp only;omega) (by omega) (by omega) HI.out.ups hud HS.out.rd HS.out.val (HI1.put _).val HI1.r40 HS.out.v6 hφ;have HI2:=Lib.hid (HI1.bury (valR rows) name ⟨un,ut,ud⟩ ⟨n,mt,mu,mb⟩);have HR2:=Lib.hid h;generalize scnB _ R' lo (hiB name) 1=R2 at *;generalize zAh (valR rows) C' R2 name ⟨un,ut,ud⟩ ⟨n,mt,mu,mb⟩=b at *;obtain ⟨ba,bc,br⟩:=b;unfold Qu.v Ms.v at HB;dsimp only at HB h5 HI2 HR2;rw [h5,show errV 0=.nilIface from rfl] at HB;clear HI1 h h1 h2 hL hL0 hks hle hlo hfr h5 hmm;go_wp2_with (first|(go_at_call 123;(with_reducible apply Does.use hO (HFN);exact tk_;refine du_ ?_;clear hO;(try clear hf);intro x9 w9 hO hf))|(go_at_call 124;(with_reducible apply Calls.mono (HMG _ (hφ _ (Own.immOf (φ:=φ) hO pk_)));refine cu_ ?_;clear hO;(try clear hf);intro w8 hO hf))|(go_at_call 114;(with_reducible apply Calls.mono (HPT _);refine cu_ ?_;clear hO;(try clear hf);intro w8 hO hf))|(go_at_call 125;(with_reducible apply Does.use hO (HB);exact tk_;refine du_ ?_;clear hO;(try clear hf);intro x9 w9 hO hf))|(refine sq_ ?_;clear hO;(try clear hf);intro w9 hO hf));all_goals try (exfalso;omega;done)
   exact ⟨⟨bc,br,msgB name n++nul,rfl,HI2,Lib.hid ⟨n+1,_,HF2.out,.inr ⟨n,hn2,rfl,rfl⟩,if_pos (zJP HNM.out n),HR2.out⟩,by (try simp only [CA]);exact hO.cut sb_⟩,HM2.out⟩
  | @take _ _ _ _ n v t hL h1 hn2 hv h2 h3 h4 e=>
   have HFN:=zDh q p since nn n V C' R' name frm lo (hiB name) v t hle rfl (hL0.trans hL) HS.out.nd (by omega) (by omega) HS.out.vl HS.out.v1 (by omega) (hL ▸ hks) h1 hn2 (by omega) hφ;have HMG:∀w,LibOk w→Calls Tryz.prog 124 #[.string name,.int .i64 (n:Int)] w fun e w'=>e=.returned (.string (msgB name n))∧Ext w w':=fun w h=>zBD name n w (by omega) h (by omega)
   have HPT:∀w,Calls Tryz.prog 114 #[.string (msgB name n)] w fun e w'=>e=.returned (.agg #[.string (msgB name n),.string (msgB name n++nul)])∧Ext w w':=fun w=>zDS (msgB name n) w (by rw [zAx];omega)
   have hkn:k≤n:=hlo.num hn2 (List.mem_filter.1 (show (⟨msgB name n,v⟩:Rw)∈inR lo (hiB name) (C'.foldl appR rows) by rw [hL];exact List.mem_cons_self ..)).2;have hfr2:FrmOk name (msgB name n++nul) (n+1):=.inr ⟨n,hn2,rfl,rfl⟩;have HF2:=Lib.hid hfr2;have HM2:=Lib.hid (show zDj name (msgB name n++nul)<zDj name frm by rw [hfr.meas,hfr2.meas];have:=hfr2;omega);clear hfr2;have hmm:(msOf n v).1.num=n∧¬(msOf n v).1.bad:=by
    rcases zBn n v with ⟨m,hm,hmn,hmb,_⟩ | ⟨hm,_⟩
    ·rw [hm];exact ⟨hmn,hmb⟩
    ·rw [hm] at h2;cases h2
   rw [h2,show errV 0=.nilIface from rfl,decide_eq_true (show (0:Nat)=0 from rfl)] at HFN;generalize (msOf n v).1=mm at *;obtain ⟨mn,mt,mu,mb⟩:=mm;obtain ⟨hmn,hmb⟩:=hmm;dsimp only at hmn;subst hmn;unfold Ms.v at HFN;dsimp only at *;have hmm:¬Ms.bad ⟨n,mt,mu,mb⟩:=hmb;unfold Ms.bad at hmb;dsimp only at hmb;have hm1:0≤mt∧mt≤9∧0≤mu∧mu≤2000000:=by omega
   obtain ⟨hm1,hm2,hm3,hm4⟩:=hm1;clear hmb;have HST:=zKn q p since C' (scnB (⟨msgB name n,v⟩::t) R' lo (hiB name) 1) name ((⟨n,mt,mu,mb⟩:Ms).more (now+long)) (by unfold Ms.more;dsimp only;omega) (by omega) (by omega) HI.out.ups hφ;generalize scnB _ R' lo (hiB name) 1=R2 at *;unfold Ms.more at *;dsimp only at HST e;generalize setL C' name ⟨n,mt+1,now+long,mb⟩=C2 at *;generalize setN C' name ⟨n,mt+1,now+long,mb⟩=N at *;unfold Ms.v at HST;dsimp only at HST;have HE:=Lib.hid e;obtain ⟨ev,hev⟩:∃ev,errV N=ev:=⟨_,rfl⟩
   have HV:=Lib.hid hev;rw [hev] at HST;clear hev e h1 h2 hL hL0 hks hle hlo hfr hmm;go_wp2_with (first|(go_at_call 123;(with_reducible apply Does.use hO (HFN);exact tk_;refine du_ ?_;clear hO;(try clear hf);intro x9 w9 hO hf))|(go_at_call 124;(with_reducible apply Calls.mono (HMG _ (hφ _ (Own.immOf (φ:=φ) hO pk_)));refine cu_ ?_;clear hO;(try clear hf);intro w8 hO hf))|(go_at_call 114;(with_reducible apply Calls.mono (HPT _);refine cu_ ?_;clear hO;(try clear hf);intro w8 hO hf))|(go_at_call 126;(with_reducible apply Does.use hO (HST);exact tk_;refine du_ ?_;clear hO;(try clear hf);intro x9 w9 hO hf))|(refine sq_ ?_;clear hO;(try clear hf);intro w9 hO hf));all_goals try (exfalso;omega;done)
   go_ret;rw [HE.out];dsimp only;refine ⟨(),(by rw [HV.out];rfl),?_⟩;(try simp only [CA]);exact hO.cut sb_
inductive RecvAns (rows:List Rw) (C:List Ch) (R:List Sp) (name:ByteArray) (now long:Int):Ms×Nat×List Ch×List Sp→Prop
 | nofind {res} (h:(zAO (valR rows (queB name)) C R name).2≠0) (e:res=(Ms.z,(zAO (valR rows (queB name)) C R name).2,C,zAI C R name)):RecvAns rows C R name now long res
 | notime {res} (h0:(zAO (valR rows (queB name)) C R name).2=0) (h:zBM [now,long]≠0) (e:res=(Ms.z,1,C,zAI C R name)):RecvAns rows C R name now long res
 | fail {res r} (h0:(zAO (valR rows (queB name)) C R name).2=0) (ht:zBM [now,long]=0) (hr:Recv rows name (zAO (valR rows (queB name)) C R name).1 now long C (zAI C R name) (loB name) r) (hb:r.2.1≠0) (e:res=(Ms.z,r.2.1,C,r.2.2.2)):RecvAns rows C R name now long res
 | done {res} (h0:(zAO (valR rows (queB name)) C R name).2=0) (ht:zBM [now,long]=0) (hr:Recv rows name (zAO (valR rows (queB name)) C R name).1 now long C (zAI C R name) (loB name) res) (hb:res.2.1=0):RecvAns rows C R name now long res
theorem zIL {rows:List Rw} {C:List Ch} {R:List Sp} (name:ByteArray) (now long:Int) (hr:QRows rows) (h:QInv C R):∃res,RecvAns rows C R name now long res∧QInv res.2.2.1 res.2.2.2:=by
 by_cases h0:(zAO (valR rows (queB name)) C R name).2=0
 ·by_cases ht:zBM [now,long]=0
  ·have hn:=(zCw h0).2.2.2.2;obtain ⟨res,h1,h2⟩:=zS4 (zAO (valR rows (queB name)) C R name).1 now long hr hn 1000000 (k:=0) (by omega) (h.find name) (.inl ⟨rfl,rfl⟩);by_cases hb:res.2.1=0
   ·exact ⟨res,.done h0 ht h1 hb,h2⟩
   ·exact ⟨_,.fail h0 ht h1 hb rfl,h.reads h2.r40⟩
  ·exact ⟨_,.notime h0 ht rfl,h.find _⟩
 ·exact ⟨_,.nofind h0 rfl,h.find _⟩
theorem zKf {a b:Int} (h:zBM [a,b]=0):0≤a∧a≤1000000∧0≤b∧b≤1000000:=by
 unfold zBM at h;split at h
 ·cases h
 ·rename_i h1;unfold badT at h1;simp at h1;omega
theorem zRD {b:Nat} {t:TypeId} {x y:Int} {w:World} (h:(Var b [.int .i64 x,.int .i64 y] t).facts w):ValsAt w (some ⟨b,0,none⟩) ([x,y].map (Value.int .i64)):=
 .inr ⟨b,0,rfl,fun i hi=>Var.at (t:=t) h i _ (List.getElem?_eq_getElem hi)⟩
theorem zMX (b0 b1 b2 b3 b4 b5 q p since nn:Nat) (V:List (ByteArray×List Vn)) (rows:List Rw) (hs:Seen V since rows) (C:List Ch) (R:List Sp) (name:ByteArray) (u:Qu) (now long:Int) (res:Ms×Nat×List Ch×List Sp)
 (hr:Recv rows name u now long C R (loB name) res) (hI:QInv C R) (hn:zAN name) (hud:u.dead.size≤6) (hn0:0≤now) (hn1:now≤1000000) (hl0:0≤long) (hl1:long≤1000000) {φ:World→Prop} (hφ:∀w,φ w→LibOk w) :
 Does Tryz.prog 119 #[.pointer (some ⟨q,0,none⟩),.func (.func 122) #[] #[.pointer (some ⟨b0,0,none⟩),.pointer (some ⟨b1,0,none⟩),.pointer (some ⟨b2,0,none⟩),.pointer (some ⟨b3,0,none⟩),.pointer (some ⟨b4,0,none⟩),.pointer (some ⟨b5,0,none⟩)]] [Var b0 [.pointer (some ⟨q,0,none⟩)] 59,Var b1 [.string name] 9,Var b2 [.int .i64 now] 3,Var b3 [.int .i64 u.next,.int .i64 u.tries,.string u.dead] 157,Var b4 [.int .i64 long] 3,Var b5 (msC Ms.z) 92,ViewR q p since C R,VerR p nn V,.imm φ]
  (fun _:Unit=>(errV res.2.1,[Var b0 [.pointer (some ⟨q,0,none⟩)] 59,Var b1 [.string name] 9,Var b2 [.int .i64 now] 3,Var b3 [.int .i64 u.next,.int .i64 u.tries,.string u.dead] 157,Var b4 [.int .i64 long] 3,Var b5 (msC res.1) 92,ViewR q p since (if res.2.1=0 then res.2.2.1 else C) res.2.2.2,VerR p nn V,.imm φ])):=by
 have hc12:=hI.c12;have H1:=zPY b0 b1 b2 b3 b4 b5 q p since nn V rows hs C R name u now long res hr hI hn hud hn0 hn1 hl0 hl1 hφ;have HMK:=zIw q p since C R (by omega);have HBK:=fun C' R' a c=>zJF q p since C' R' a c C (by omega)
 clear hs hr hI hn;obtain ⟨⟨s1,s2,s3,s4⟩,sn,sc,sr⟩:=res;obtain ⟨un,ut,ud⟩:=u;unfold msC Ms.z at *;dsimp only at H1 ⊢;rcases zAk sn with ⟨h0,e⟩ | ⟨M,h0,e⟩<;>rw [e] at H1 ⊢<;>clear e
 ·rw [if_pos h0];intro S W w L0 hO;simp only [CA] at hO;(replace hf:=fa_ hO);go_enter Tryz.func119,Tryz.ntmps119;go_wp2_with (first|(go_at_call 202;(with_reducible apply Does.use hO (HMK);exact tk_;refine du_ ?_;clear hO hf;intro x9 w9 hO hf;(obtain ⟨ma,mc⟩:=x9;dsimp only at hO ⊢;(replace hf:=fa_ hO))))|(go_at_call 122;(with_reducible apply Does.use hO (H1);exact tk_;refine du_ ?_;clear hO hf;intro x9 w9 hO hf))|(refine sq_ ?_;clear hO hf;intro w9 hO hf));go_ret;refine ⟨(),rfl,?_⟩;(try simp only [CA]);exact hO.cut sb_
 ·rw [if_neg h0];intro S W w L0 hO;simp only [CA] at hO;(replace hf:=fa_ hO);go_enter Tryz.func119,Tryz.ntmps119;go_upto_region 4 with (first|(go_at_call 202;(with_reducible apply Does.use hO (HMK);exact tk_;refine du_ ?_;clear hO hf;intro x9 w9 hO hf;(obtain ⟨ma,mc⟩:=x9;dsimp only at hO ⊢;(replace hf:=fa_ hO))))|(go_at_call 122;(with_reducible apply Does.use hO (H1);exact tk_;refine du_ ?_;clear hO hf;intro x9 w9 hO hf))|(refine sq_ ?_;clear hO hf;intro w9 hO hf))
  have hO:=hO.rowCi (a:=ma) (C:=C) pk_;(replace hf:=fa_ hO);go_wp2_with (first|(go_at_call 203;(with_reducible apply Does.use hO (HBK _ _ _ _);exact tk_;refine du_ ?_;clear hO hf;intro x9 w9 hO hf))|(refine sq_ ?_;clear hO hf;intro w9 hO hf));go_ret;refine ⟨(),rfl,?_⟩;(try simp only [CA]);exact hO.cut sb_
theorem zLD (q p since nn:Nat) (V:List (ByteArray×List Vn)) (rows:List Rw) (hs:Seen V since rows) (C:List Ch) (R:List Sp) (name:ByteArray) (now long:Int) (res:Ms×Nat×List Ch×List Sp)
 (hr:RecvAns rows C R name now long res) (hI:QInv C R) (hk:name.size≤200) {φ:World→Prop} (hφ:∀w,φ w→LibOk w) :
 Does Tryz.prog 49 #[.pointer (some ⟨q,0,none⟩),.string name,.int .i64 now,.int .i64 long] [ViewR q p since C R,VerR p nn V,.imm φ]
  (fun _:Unit=>(.tuple #[res.1.v,errV res.2.1],[ViewR q p since res.2.2.1 res.2.2.2,VerR p nn V,.imm φ])):=by
 have hc12:=hI.c12;have HF:=zCJ q p since nn V C R name _ (hs.rd _) (hs.val _) hI.val hk (by omega) hI.ups hI.r40 hs.v6 hφ;have HTM:=fun w b (h:(Var b [.int .i64 now,.int .i64 long] 3).facts w)=>zIA (some ⟨b,0,none⟩) 2 2 [now,long] w rfl (by omega) (zRD h)
 have hok:=zCw (y:=valR rows (queB name)) (C:=C) (R:=R) (name:=name);have hAL:=fun (b0 b1 b2 b3 b4 b5:Nat) (u:Qu) r h1 h2 h3 h4 h5 h6 h7=>zMX b0 b1 b2 b3 b4 b5 q p since nn V rows hs C (zAI C R name) name u now long r h1 (hI.find name) h2 h3 h4 h5 h6 h7 hφ
 unfold Qu.v at HF;cases hr with
 | nofind h e=>
  subst e;generalize zAO (valR rows (queB name)) C R name=f at *;generalize zAI C R name=R' at *;obtain ⟨⟨un,ut,ud⟩,f2⟩:=f;unfold Ms.v Ms.z;dsimp only at HF h ⊢;rcases zAk f2 with ⟨h0,e⟩ | ⟨M,h0,e⟩
  ·exact absurd h0 h
  ·rw [e] at HF ⊢;clear hAL hok HTM hs hI h0 h e;intro S W w L0 hO;simp only [CA] at hO;(replace hf:=fa_ hO);go_enter Tryz.func49,Tryz.ntmps49;go_wp2_with (first|(go_at_call 90;(with_reducible apply Does.use hO (HF);exact tk_;refine du_ ?_;clear hO hf;intro x9 w9 hO hf))|(refine sq_ ?_;clear hO hf;intro w9 hO hf))
   ((refine zAD rfl fun K hK=>?_;simp [results,Tryz.results49,go_sem,hf];refine hK _ ⟨(),?_,?_⟩);(focus rfl);(focus ((try simp only [CA]);exact hO.cut sb_)))
 | notime h0 h e=>
  subst e;have h1:zBM [now,long]=1:=by have:=zIM [now,long];omega
  rw [h1] at HTM;generalize zAO (valR rows (queB name)) C R name=f at *;generalize zAI C R name=R' at *;obtain ⟨⟨un,ut,ud⟩,f2⟩:=f;unfold Ms.v Ms.z;dsimp only at HF h0 ⊢;subst h0;rw [show errV 0=.nilIface from rfl] at HF;rw [show errV 1=.iface 124 (.int .i64 1) from rfl] at HTM ⊢;clear hAL hok hs hI h h1;intro S W w L0 hO;simp only [CA] at hO;(replace hf:=fa_ hO);go_enter Tryz.func49,Tryz.ntmps49;go_wp2_with (first|(go_at_call 90;(with_reducible apply Does.use hO (HF);exact tk_;refine du_ ?_;clear hO hf;intro x9 w9 hO hf))|(go_at_call 118;(with_reducible apply Calls.mono (HTM _ _ (hO.factOf (r:=Var _ [.int .i64 now,.int .i64 long] 3) pk_));refine cu_ ?_;clear hO hf;intro w8 hO hf))|(refine sq_ ?_;clear hO hf;intro w9 hO hf))
  ((refine zAD rfl fun K hK=>?_;simp [results,Tryz.results49,go_sem,hf];refine hK _ ⟨(),?_,?_⟩);(focus rfl);(focus ((try simp only [CA]);exact hO.cut sb_)))
 | @fail r h0 ht hr hb e=>
  subst e;obtain ⟨_,_,hd,_,hn⟩:=hok h0;obtain ⟨t0,t1,t2,t3⟩:=zKf ht;have HAL:=fun (b0 b1 b2 b3 b4 b5:Nat)=>hAL b0 b1 b2 b3 b4 b5 _ r hr hn hd t0 t1 t2 t3
  rw [ht,show errV 0=.nilIface from rfl] at HTM;clear hAL hok hs hI hr hd hn;generalize zAO (valR rows (queB name)) C R name=f at *;generalize zAI C R name=R' at *;obtain ⟨⟨un,ut,ud⟩,f2⟩:=f;obtain ⟨⟨s1,s2,s3,s4⟩,sn,sc,sr⟩:=r;unfold msC at HAL;unfold Ms.z at *;unfold Ms.v;dsimp only at HF h0 hb HAL ⊢;subst h0;rw [show errV 0=.nilIface from rfl] at HF;rw [if_neg hb] at HAL;rcases zAk sn with ⟨h0,e⟩ | ⟨M,h0,e⟩
  ·exact absurd h0 hb
  ·rw [e] at HAL ⊢;clear e h0 hb ht;intro S W w L0 hO;simp only [CA] at hO;(replace hf:=fa_ hO);go_enter Tryz.func49,Tryz.ntmps49;go_wp2_with (first|(go_at_call 90;(with_reducible apply Does.use hO (HF);exact tk_;refine du_ ?_;clear hO hf;intro x9 w9 hO hf))|(go_at_call 118;(with_reducible apply Calls.mono (HTM _ _ (hO.factOf (r:=Var _ [.int .i64 now,.int .i64 long] 3) pk_));refine cu_ ?_;clear hO hf;intro w8 hO hf))|(go_at_call 119;(with_reducible apply Does.use hO (HAL _ _ _ _ _ _);exact tk_;refine du_ ?_;clear hO hf;intro x9 w9 hO hf))|(refine sq_ ?_;clear hO hf;intro w9 hO hf))
   ((refine zAD rfl fun K hK=>?_;simp [results,Tryz.results49,go_sem,hf];refine hK _ ⟨(),?_,?_⟩);(focus rfl);(focus ((try simp only [CA]);exact hO.cut sb_)))
 | done h0 ht hr hb=>
  obtain ⟨_,_,hd,_,hn⟩:=hok h0;obtain ⟨t0,t1,t2,t3⟩:=zKf ht;have HAL:=fun (b0 b1 b2 b3 b4 b5:Nat)=>hAL b0 b1 b2 b3 b4 b5 _ res hr hn hd t0 t1 t2 t3
  rw [ht,show errV 0=.nilIface from rfl] at HTM;clear hAL hok hs hI hr hd hn;generalize zAO (valR rows (queB name)) C R name=f at *;generalize zAI C R name=R' at *;obtain ⟨⟨un,ut,ud⟩,f2⟩:=f;obtain ⟨⟨s1,s2,s3,s4⟩,sn,sc,sr⟩:=res;unfold msC Ms.z at HAL;unfold Ms.v;dsimp only at HF h0 hb HAL ⊢;subst h0 hb;rw [if_pos rfl] at HAL;rw [show errV 0=.nilIface from rfl] at HF HAL ⊢;clear ht;intro S W w L0 hO;simp only [CA] at hO;(replace hf:=fa_ hO);go_enter Tryz.func49,Tryz.ntmps49;go_wp2_with (first|(go_at_call 90;(with_reducible apply Does.use hO (HF);exact tk_;refine du_ ?_;clear hO hf;intro x9 w9 hO hf))|(go_at_call 118;(with_reducible apply Calls.mono (HTM _ _ (hO.factOf (r:=Var _ [.int .i64 now,.int .i64 long] 3) pk_));refine cu_ ?_;clear hO hf;intro w8 hO hf))|(go_at_call 119;(with_reducible apply Does.use hO (HAL _ _ _ _ _ _);exact tk_;refine du_ ?_;clear hO hf;intro x9 w9 hO hf))|(refine sq_ ?_;clear hO hf;intro w9 hO hf))
  ((refine zAD rfl fun K hK=>?_;simp [results,Tryz.results49,go_sem,hf];refine hK _ ⟨(),?_,?_⟩);(focus rfl);(focus ((try simp only [CA]);exact hO.cut sb_)))
def Ac.v (x:Ac):Value:=.agg #[.string x.kind,.int .i64 x.a,.int .i64 x.b,.int .i64 x.c,.int .u64 x.k,.string x.s,.string x.t,.slice x.cp x.ch.length x.cc,.slice x.sp x.spn.length x.sc]
theorem zDR (y:ByteArray×Bool) (C:List Ch) (R:List Sp) (name:ByteArray):(zAO y C R name).2≤1000:=by
 unfold zAO;split
 ·show 3≤1000;omega
 ·split
  ·exact zGz _ _ _ _
  ·split
   ·show 5≤1000;omega
   ·exact Nat.le_trans (zTP _) (by omega)
theorem zHj (C:List Ch) (name:ByteArray) (u:Qu):zD6 C name u≤1000:=by
 unfold zD6;split
 ·exact Nat.le_trans u.txt_le (by omega)
 ·exact zC9 _ _
theorem zOa (C:List Ch) (name:ByteArray) (m:Ms):setN C name m≤1000:=by
 unfold setN;split
 ·exact Nat.le_trans m.txt_le (by omega)
 ·exact zC9 _ _
theorem zMT (C:List Ch) (name:ByteArray) (u:Qu) (body:ByteArray) (til:Int):(zA8 C name u body til).2.1≤1000:=by
 unfold zA8;split
 ·show 8≤1000;omega
 ·split
  ·exact Nat.le_trans (Ms.txt_le _) (by omega)
  ·split
   ·exact zC9 _ _
   ·exact zHj _ _ _
theorem zMi (y:ByteArray×Bool) (C:List Ch) (R:List Sp) (name body:ByteArray) (til:Int):(zBa y C R name body til).2.1≤1000:=by
 unfold zBa;split
 ·exact zDR _ _ _ _
 ·split
  ·show 1≤1000;omega
  ·split
   ·exact zMT _ _ _ _ _
   ·exact Nat.zero_le _
theorem zJG (B:ByteArray→ByteArray×Bool) (C:List Ch) (R:List Sp) (name:ByteArray) (tries:Int) (dead:ByteArray):(zAq B C R name tries dead).1≤1000:=by
 unfold zAq;split
 ·show 6≤1000;omega
 ·split
  ·exact zDR _ _ _ _
  ·split
   ·show 3≤1000;omega
   ·split
    ·exact zHj _ _ _
    ·split
     ·exact zDR _ _ _ _
     ·exact zHj _ _ _
theorem zMz (B:ByteArray→ByteArray×Bool) (C:List Ch) (R:List Sp) (name:ByteArray) (n tries:Int):(zBf B C R name n tries).2≤1000:=by
 unfold zBf;split
 ·exact zDR _ _ _ _
 ·split
  ·show 1≤1000;omega
  ·split
   ·exact zGz _ _ _ _
   ·split
    ·show 11≤1000;omega
    ·split
     ·exact Nat.le_trans (zOK _ _) (by omega)
     ·split
      ·show 11≤1000;omega
      ·show 0≤1000;omega
theorem zON (B:ByteArray→ByteArray×Bool) (C:List Ch) (R:List Sp) (name:ByteArray) (n tries:Int):(ackA B C R name n tries).1≤1000:=by
 unfold ackA;split
 ·exact zMz _ _ _ _ _ _
 ·exact zC9 _ _
theorem zLU (B:ByteArray→ByteArray×Bool) (C:List Ch) (R:List Sp) (name:ByteArray) (n tries til:Int):(zCL B C R name n tries til).1≤1000:=by
 unfold zCL;split
 ·exact zMz _ _ _ _ _ _
 ·split
  ·show 1≤1000;omega
  ·exact zOa _ _ _
theorem zRm (B:ByteArray→ByteArray×Bool) (C:List Ch) (R:List Sp) (name:ByteArray) (u:Qu) (m:Ms):(zAh B C R name u m).1≤1000:=by
 unfold zAh;split
 ·exact zC9 _ _
 ·split
  ·exact Nat.zero_le _
  ·split
   ·exact zDR _ _ _ _
   ·exact zMT _ _ _ _ _
theorem Recv.le {rows:List Rw} {name:ByteArray} {u:Qu} {now long:Int} {C:List Ch} {R:List Sp} {lo:ByteArray} {res:Ms×Nat×List Ch×List Sp} (h:Recv rows name u now long C R lo res):res.2.1≤1000:=by
 induction h with
 | bad hL h1 e=>subst e;dsimp only;exact zG5 _ _ _ _ _
 | empty hL h1 e=>subst e;show 12≤1000;omega
 | text hL h1 hn hv h2 e=>subst e;exact Nat.le_trans (zOK _ _) (by omega)
 | skip hL h1 hn hv h2 h3 h ih=>exact ih
 | lost hL h1 hn hv h2 h3 h4 h5 e=>subst e;exact zRm _ _ _ _ _ _
 | bury hL h1 hn hv h2 h3 h4 h5 h ih=>exact ih
 | take hL h1 hn hv h2 h3 h4 e=>subst e;exact zOa _ _ _
theorem RecvAns.le {rows:List Rw} {C:List Ch} {R:List Sp} {name:ByteArray} {now long:Int} {res:Ms×Nat×List Ch×List Sp} (h:RecvAns rows C R name now long res):res.2.1≤1000:=by
 cases h with
 | nofind h e=>subst e;exact zDR _ _ _ _
 | notime h0 h e=>subst e;show 1≤1000;omega
 | fail h0 ht hr hb e=>subst e;exact hr.le
 | done h0 ht hr hb=>exact hr.le
theorem zMh (rows:List Rw) (C:List Ch) (R:List Sp) (name:ByteArray):(zA3 rows C R name).2.1≤1000:=by
 unfold zA3;split
 ·exact zDR _ _ _ _
 ·split
  ·dsimp only;exact zG5 _ _ _ _ _
  ·split
   ·show 4≤1000;omega
   ·exact Nat.zero_le _
theorem zP8 (rows:List Rw) (C:List Ch) (R:List Sp) (name:ByteArray):(zA3 rows C R name).1.length≤53:=by
 unfold zA3;split
 ·exact Nat.zero_le _
 ·split
  ·exact Nat.zero_le _
  ·split
   ·exact Nat.zero_le _
   ·rw [List.length_map,List.length_take];omega
theorem QInv.create {C:List Ch} {R:List Sp} (h:QInv C R) (B:ByteArray→ByteArray×Bool) (name:ByteArray) (tries:Int) (dead:ByteArray):QInv (zAq B C R name tries dead).2.1 (zAq B C R name tries dead).2.2:=by
 unfold zAq;split
 ·exact h.find _
 ·split
  ·exact h.find _
  ·split
   ·exact h.find _
   ·split
    ·exact (h.find _).putq _ _
    ·split
     ·exact (h.find _).find _
     ·exact ((h.find _).find _).putq _ _
theorem QInv.Send {C:List Ch} {R:List Sp} (h:QInv C R) (y:ByteArray×Bool) (name body:ByteArray) (til:Int):QInv (zBa y C R name body til).2.2 (zAI C R name):=by
 unfold zBa;split
 ·exact h.find _
 ·split
  ·exact h.find _
  ·split
   ·exact h.find _
   ·exact (h.find _).send _ _ _ _
theorem QInv.get {C:List Ch} {R:List Sp} (h:QInv C R) (k:ByteArray):QInv C (getB C R k):=h.reads (zH8 h.r40)
theorem QInv.mine {C:List Ch} {R:List Sp} (h:QInv C R) (B:ByteArray→ByteArray×Bool) (name:ByteArray) (n tries:Int):QInv C (zBK B C R name n tries):=by
 unfold zBK;split
 ·exact h.find _
 ·exact (h.find _).get _
theorem QInv.ack {C:List Ch} {R:List Sp} (h:QInv C R) (B:ByteArray→ByteArray×Bool) (name:ByteArray) (n tries:Int):QInv (ackA B C R name n tries).2 (zBK B C R name n tries):=by
 unfold ackA;split
 ·exact h.mine _ _ _ _
 ·exact (h.mine _ _ _ _).put _
theorem QInv.wait {C:List Ch} {R:List Sp} (h:QInv C R) (B:ByteArray→ByteArray×Bool) (name:ByteArray) (n tries til:Int):QInv (zCL B C R name n tries til).2 (zBK B C R name n tries):=by
 unfold zCL;split
 ·exact h.mine _ _ _ _
 ·split
  ·exact h.mine _ _ _ _
  ·exact (h.mine _ _ _ _).set _ _
theorem QInv.msgs {C:List Ch} {R:List Sp} (h:QInv C R) (rows:List Rw) (name:ByteArray):QInv C (zA3 rows C R name).2.2:=by
 unfold zA3;split
 ·exact h.find _
 ·split
  ·dsimp only;exact (h.find _).scan _ _ _ _
  ·split
   ·dsimp only;exact (h.find _).scan _ _ _ _
   ·dsimp only;exact (h.find _).scan _ _ _ _
theorem Does.wit {P:Program} {f:Nat} {args:Array Value} {rs:List Rs} {α β:Type} {g:α→Value×List Rs} {g':β→Value×List Rs} (h:Does P f args rs g) (k:∀x,∃y,g' y=g x):Does P f args rs g':=fun S W w L0 hO=>
 (h S W w L0 hO).mono fun e w' ⟨x,he,ho⟩=>by
  obtain ⟨y,hy⟩:=k x;exact ⟨y,by rw [hy];exact he,by rw [hy];exact ho⟩
def Ac.span (x:Ac):Sp:=x.spn.headD ⟨⟨#[]⟩,⟨#[]⟩⟩
def decT (n:Int):ByteArray:=zAM n
def zAs (n:Nat):ByteArray:=⟨#[33]⟩++zAM n
def msT (m:Ms):ByteArray:=decT m.num++⟨#[44]⟩++decT m.tries++⟨#[44]⟩++decT m.until_++⟨#[44]⟩++m.body
def zD9 (l:List Ms):ByteArray:=l.foldl (fun s m=>s++msT m++⟨#[59]⟩) ⟨#[]⟩
def zC1 (l:List Rw):ByteArray:=l.foldl (fun s r=>s++r.key++⟨#[61]⟩++r.val++⟨#[59]⟩) ⟨#[]⟩
theorem zIx (l:List Ms) {i:Nat} (h:i<l.length):zD9 (l.take (i+1))=zD9 (l.take i)++msT l[i]++⟨#[59]⟩:=by
 unfold zD9;rw [List.take_succ_eq_append_getElem h,List.foldl_append];rfl
theorem zFi (l:List Rw) {i:Nat} (h:i<l.length):zC1 (l.take (i+1))=zC1 (l.take i)++l[i].key++⟨#[61]⟩++l[i].val++⟨#[59]⟩:=by
 unfold zC1;rw [List.take_succ_eq_append_getElem h,List.foldl_append];rfl
structure MsIn (m:Ms):Prop where
 n0:0≤m.num
 n1:m.num≤1000000
 t0:0≤m.tries
 t1:m.tries≤1000
 u0:0≤m.until_
 u1:m.until_≤2000000
 b:m.body.size≤100
theorem MsIn.z:MsIn Ms.z:=⟨by decide,by decide,by decide,by decide,by decide,by decide,by decide⟩
theorem zOM {n:Nat} (hn:n<1000000) (v:ByteArray):MsIn (msOf n v).1∧((msOf n v).2=0→(msOf n v).1.num=n∧(msOf n v).1.tries≤9∧(msOf n v).1.body.size≤28):=by
 rcases zBn n v with ⟨m,h,h1,h2,_⟩ | ⟨h,_⟩
 ·rw [h];unfold Ms.bad at h2;dsimp only;exact ⟨⟨by omega,by omega,by omega,by omega,by omega,by omega,by omega⟩,fun _=>⟨h1,by omega,by omega⟩⟩
 ·rw [h];exact ⟨MsIn.z,fun h=>by cases h⟩
theorem zSk {n:Nat} {v:ByteArray} {t:Int} (hn:n<1000000) (h2:(msOf n v).2=0) (h3:0≤t) (h4:t≤2000000):MsIn ((msOf n v).1.more t):=by
 obtain ⟨g1,g2⟩:=zOM hn v;obtain ⟨g3,g4,g5⟩:=g2 h2;have:=g1.t0;exact ⟨g1.n0,g1.n1,show 0≤(msOf n v).1.tries+1 by omega,show (msOf n v).1.tries+1≤1000 by omega,h3,h4,g1.b⟩
theorem h01:(0:Int)≤0∧(0:Int)≤1000000:=by decide
theorem zSb {now long:Int} (h:zBM [now,long]=0):0≤now∧now≤1000000∧0≤long∧long≤1000000:=by
 unfold zBM at h;split at h
 ·cases h
 ·rename_i h1;simp only [List.any_cons,List.any_nil,Bool.or_false,badT,Bool.not_eq_true,Bool.or_eq_false_iff,decide_eq_false_iff_not] at h1;omega
theorem Recv.in {rows:List Rw} {name:ByteArray} {u:Qu} {now long:Int} (ht:zBM [now,long]=0) {C:List Ch} {R:List Sp} {lo:ByteArray} {res:Ms×Nat×List Ch×List Sp} (h:Recv rows name u now long C R lo res):MsIn res.1:=by
 obtain ⟨h0,h1,h2,h3⟩:=zSb ht
 induction h with
 | bad hL h1 e=>subst e;exact MsIn.z
 | empty hL h1 e=>subst e;exact MsIn.z
 | text hL h1 hn hv h2 e=>subst e;exact MsIn.z
 | skip hL h1 hn hv h2 h3 h ih=>exact ih
 | lost hL h1 hn hv h2 h3 h4 h5 e=>subst e;exact MsIn.z
 | bury hL h1 hn hv h2 h3 h4 h5 h ih=>exact ih
 | take hL h1 hn hv h2 h3 h4 e=>
  subst e;exact zSk hn h2 (by omega) (by omega)
theorem RecvAns.in {rows:List Rw} {C:List Ch} {R:List Sp} {name:ByteArray} {now long:Int} {res:Ms×Nat×List Ch×List Sp} (h:RecvAns rows C R name now long res):MsIn res.1:=by
 cases h with
 | nofind h e=>subst e;exact MsIn.z
 | notime h0 h e=>subst e;exact MsIn.z
 | fail h0 ht hr hb e=>subst e;exact MsIn.z
 | done h0 ht hr hb=>exact hr.in ht
theorem zRR (y:ByteArray×Bool) (C:List Ch) (R:List Sp) (name body:ByteArray) (til:Int):0≤(zBa y C R name body til).1∧(zBa y C R name body til).1≤1000000:=by
 unfold zBa;split
 ·exact h01
 ·rename_i h1;obtain ⟨g1,g2,_⟩:=zCw (Classical.not_not.1 h1);split
  ·exact h01
  ·split
   ·exact h01
   ·dsimp only;unfold zA8;split
    ·exact h01
    ·split
     ·exact h01
     ·split
      ·exact h01
      ·dsimp only;omega
theorem zRO {rows:List Rw} {C:List Ch} {R:List Sp} (hr:QRows rows) (h:QInv C R) (name:ByteArray):∀m∈(zA3 rows C R name).1,MsIn m:=by
 unfold zA3;split
 ·intro m hm;cases hm
 ·rename_i h1;have hn:=(zCw (Classical.not_not.1 h1)).2.2.2.2;split
  ·intro m hm;cases hm
  ·split
   ·intro m hm;cases hm
   ·intro m hm;obtain ⟨r,hr2,rfl⟩:=List.mem_map.1 hm;obtain ⟨n,h2,h3,_⟩:=((zOR hr h hn).take 53) r hr2;unfold msR;rw [h3,zMZ name h2];exact (zOM h2 _).1
def zCx (rows:List Rw) (C:List Ch) (R:List Sp) (x:Ac) (res:Ms×Nat×List Ch×List Sp):Prop:=RecvAns rows C R x.s x.a x.b res∧QInv res.2.2.1 res.2.2.2
noncomputable def getT (y:ByteArray×Bool×Nat):ByteArray:=(if y.2.1 then ⟨#[43]⟩++y.1 else y.1)++zAs y.2.2
noncomputable def zAd (rows:List Rw) (C:List Ch) (R:List Sp) (x:Ac) (res:Ms×Nat×List Ch×List Sp):ByteArray×List Ch×List Sp:=
 if x.kind.toList==[99,114,101,97,116,101] then (zAs (zAq (valR rows) C R x.s x.a x.t).1,(zAq (valR rows) C R x.s x.a x.t).2)
 else if x.kind.toList==[115,101,110,100] then (decT (zBa (valR rows (queB x.s)) C R x.s x.t x.a).1++zAs (zBa (valR rows (queB x.s)) C R x.s x.t x.a).2.1,(zBa (valR rows (queB x.s)) C R x.s x.t x.a).2.2,zAI C R x.s)
 else if x.kind.toList==[114,101,99,101,105,118,101] then (msT res.1++zAs res.2.1,res.2.2)
 else if x.kind.toList==[97,99,107] then (zAs (ackA (valR rows) C R x.s x.a x.b).1,(ackA (valR rows) C R x.s x.a x.b).2,zBK (valR rows) C R x.s x.a x.b)
 else if x.kind.toList==[119,97,105,116] then (zAs (zCL (valR rows) C R x.s x.a x.b x.c).1,(zCL (valR rows) C R x.s x.a x.b x.c).2,zBK (valR rows) C R x.s x.a x.b)
 else if x.kind.toList==[112,117,116] then (zAs (putN C ⟨x.s,x.t,false⟩),putL C ⟨x.s,x.t,false⟩,R)
 else if x.kind.toList==[100,101,108,101,116,101] then (zAs (putN C ⟨x.s,⟨#[]⟩,true⟩),putL C ⟨x.s,⟨#[]⟩,true⟩,R)
 else if x.kind.toList==[103,101,116] then (getT (getG (valR rows x.s) C R x.s),C,getB C R x.s)
 else if x.kind.toList==[109,101,115,115,97,103,101,115] then (zD9 (zA3 rows C R x.s).1++zAs (zA3 rows C R x.s).2.1,C,(zA3 rows C R x.s).2.2)
 else (zC1 (scnO (inR x.span.lo x.span.hi (C.foldl appR rows)) R x.span.lo x.span.hi x.a)++zAs (scnN (inR x.span.lo x.span.hi (C.foldl appR rows)) R x.span.lo x.span.hi x.a),C,scnB (inR x.span.lo x.span.hi (C.foldl appR rows)) R x.span.lo x.span.hi x.a)
theorem zE8 {rows:List Rw} {C:List Ch} {R:List Sp} (h:QInv C R) (x:Ac) {res:Ms×Nat×List Ch×List Sp} (hr:zCx rows C R x res):QInv (zAd rows C R x res).2.1 (zAd rows C R x res).2.2:=by
 unfold zAd;split
 ·exact h.create _ _ _ _
 ·split
  ·exact h.Send _ _ _ _
  ·split
   ·exact hr.2
   ·split
    ·exact h.ack _ _ _ _
    ·split
     ·exact h.wait _ _ _ _ _
     ·split
      ·exact h.put _
      ·split
       ·exact h.put _
       ·split
        ·exact h.get _
        ·split
         ·exact h.msgs _ _
         ·exact h.scan _ _ _ _
def Ac.ses (x:Ac):Nat:=(bits .and .i64 x.c 3).toNat
theorem Ac.ses_lt (x:Ac):x.ses<4:=by
 obtain ⟨s,h1,h2⟩:=and3 x.c;unfold Ac.ses;omega
structure Dl where
 at_:Nat
 reads:Bool
 acts:List (Ac×ByteArray)
structure PS where
 c:Core
 D:Nat→Option (Nat×Dv)
 N:Nat→List (Ac×ByteArray)
 out:List Dl
def zBg (N:Nat→List (Ac×ByteArray)) (s:Nat) (l:List (Ac×ByteArray)):Nat→List (Ac×ByteArray):=fun i=>if i=s then l else N i
def PS.beg (p:PS) (s q:Nat):PS:=⟨p.c,setF p.D s (some (q,⟨p.c.nn,[],[]⟩)),zBg p.N s [],p.out⟩
def PS.end_ (p:PS) (s n:Nat) (r:Bool) (c':Core) (D':Nat→Option (Nat×Dv)):PS:=⟨c',D',p.N,p.out++[⟨n,r,p.N s⟩]⟩
noncomputable def PS.act (p:PS) (s:Nat) (x:Nat×Dv) (a:Ac) (y:ByteArray×List Ch×List Sp):PS:=
 ⟨p.c,setF p.D s (some (x.1,⟨x.2.since,y.2.1,y.2.2⟩)),zBg p.N s (p.N s++[(a,y.1)]),p.out⟩
inductive PStep (m B:Nat) (p:PS) (a:Ac):PS→Prop
 | beg (q:Nat):a.kind.toList=[98,101,103,105,110]→p.D a.ses=none→PStep m B p a (p.beg a.ses q)
 | same:PStep m B p a p
 | com (x) (n c' D'):a.kind.toList=[99,111,109,109,105,116]→p.D a.ses=some x→ComOk m B p.c p.D a.ses x.2 n 0 c' D'→PStep m B p a (p.end_ a.ses n (decide (x.2.C.length=0)) c' D')
 | comno (x) (n k c' D'):a.kind.toList=[99,111,109,109,105,116]→p.D a.ses=some x→k≠0→k≠10→ComOk m B p.c p.D a.ses x.2 n k c' D'→PStep m B p a ⟨c',D',p.N,p.out⟩
 | ab (x):a.kind.toList=[97,98,111,114,116]→p.D a.ses=some x→PStep m B p a ⟨p.c,setF p.D a.ses none,p.N,p.out⟩
 | vac:a.kind.toList=[118,97,99,117,117,109]→PStep m B p a ⟨p.c.vac (zA5 p.c.nn p.D),p.D,p.N,p.out⟩
 | save (c'):a.kind.toList=[115,97,118,101]→SaveOk m B p.c c'→PStep m B p a ⟨c',p.D,p.N,p.out⟩
 | told (x) (res):p.D a.ses=some x→zCx (p.c.at x.2.since) x.2.C x.2.R a res→PStep m B p a (p.act a.ses x a (zAd (p.c.at x.2.since) x.2.C x.2.R a res))
inductive PRun (m B:Nat) (p:PS):List Ac→PS→Prop
 | nil:PRun m B p [] p
 | snoc {l q q'} (a:Ac):PRun m B p l q→PStep m (B+l.length) q a q'→PRun m B p (l++[a]) q'
structure PSOk (m B:Nat) (p:PS):Prop where
 c:CoreOk m B p.c
 d:∀i<4,∀x,p.D i=some x→DeedOk p.c x.2
 f:p.c.d.fuse=-1
theorem PStep.ok {m B:Nat} {p p':PS} {a:Ac} (h:PStep m B p a p') (H:PSOk m B p) (hB:B+1≤1000):PSOk m (B+1) p':=by
 have h0:PSOk m (B+1) p:=⟨H.c.more (Nat.le_succ _) hB,H.d,H.f⟩
 cases h with
 | beg q k1 k2=>
  refine ⟨h0.c,fun i hi x hx=>?_,h0.f⟩;rcases zA1 hx with ⟨_,h⟩ | ⟨_,h⟩
  ·cases h;exact H.c.fresh
  ·exact H.d i hi x h
 | same=>exact h0
 | com x n c' D' k1 k2 k3=>
  obtain ⟨h1,h2,h3⟩:=k3.leaves H.c hB H.d H.f;exact ⟨h1,h2,h3⟩
 | comno x n k c' D' k1 k2 k3 k4 k5=>
  obtain ⟨h1,h2,h3⟩:=k5.leaves H.c hB H.d H.f;exact ⟨h1,h2,h3⟩
 | ab x k1 k2=>
  refine ⟨h0.c,fun i hi x hx=>?_,h0.f⟩;rcases zA1 hx with ⟨_,h⟩ | ⟨_,h⟩
  ·cases h
  ·exact H.d i hi x h
 | vac k1=>
  refine ⟨h0.c.vac (zJ5 _ _),fun i hi x hx=>(H.d i hi x hx).vac (zGm _ _ hi hx),h0.f⟩
 | save c' k1 k2=>
  obtain ⟨h1,h2,h3⟩:=k2.leaves H.c hB H.f;exact ⟨h1,fun i hi x hx=>h2 _ (H.d i hi x hx),h3⟩
 | told x res k2 k3=>
  refine ⟨h0.c,fun i hi y hy=>?_,h0.f⟩;rcases zA1 hy with ⟨h,h5⟩ | ⟨_,h⟩
  ·cases h5;have h1:=H.d _ (Ac.ses_lt a) x k2;exact ⟨h1.f,h1.k,h1.le,zE8 h1.q a k3⟩
  ·exact H.d i hi y h
theorem PRun.ok {m B:Nat} {p p':PS} {l:List Ac} (h:PRun m B p l p') (H:PSOk m B p) (hB:B+l.length≤1000):PSOk m (B+l.length) p':=by
 induction h with
 | nil=>exact H
 | snoc a h1 h2 ih=>
  rw [List.length_append,List.length_singleton] at hB ⊢;exact h2.ok (ih (by omega)) (by omega)
noncomputable def msG (O:List Rw) (j:Nat):List Ms:=(O.take j).map fun r=>(msR r).1
theorem zSe {O:List Rw} {j:Nat} (h:j≤O.length):(msG O j).length=j:=by unfold msG;rw [List.length_map,List.length_take];omega
theorem zRr {O:List Rw} {j:Nat} (h:j<O.length):msG O (j+1)=msG O j++[(msR O[j]).1]:=by
 unfold msG;rw [List.take_succ_eq_append_getElem h,List.map_append];rfl
theorem zSx {O:List Rw}:msG O O.length=O.map fun r=>(msR r).1:=by unfold msG;rw [List.take_length]
theorem zR2 {O:List Rw} {j:Nat} (h:j<O.length) (h1:∀r∈O.take j,(msR r).2=0) (h2:(msR O[j]).2=0):∀r∈O.take (j+1),(msR r).2=0:=fun r hr=>by
 rw [List.take_succ_eq_append_getElem h] at hr;rcases List.mem_append.1 hr with hr | hr
 ·exact h1 r hr
 ·rw [List.mem_singleton.1 hr];exact h2
theorem zTG {name k v:ByteArray} {n:Nat} (hn:n<1000000) (hk:k=msgB name n):msR ⟨k,v⟩=msOf (n:Int) v:=by
 unfold msR;rw [hk];dsimp only;rw [zMZ name hn]
theorem zJu (q p since nn:Nat) (V:List (ByteArray×List Vn)) (rows:List Rw) (hs:Seen V since rows) (C:List Ch) (R:List Sp) (name:ByteArray) (hI:QInv C R) (hk:name.size≤200) {φ:World→Prop} (hφ:∀w,φ w→LibOk w) :
 Does Tryz.prog 96 #[.pointer (some ⟨q,0,none⟩),.string name] [ViewR q p since C R,VerR p nn V,.imm φ]
  (fun x:Option Addr×Nat=>(.tuple #[.slice x.1 (zA3 rows C R name).1.length x.2,errV (zA3 rows C R name).2.1],[ViewR q p since C (zA3 rows C R name).2.2,VerR p nn V,.imm φ,Row2 92 4 x.1 (zA3 rows C R name).1.length x.2 ((zA3 rows C R name).1.flatMap msC)])):=by
 obtain ⟨iM,hiM,hzM,hsM,hbM⟩:=info_parts Tryz.infoMs;have hc12:=hI.c12;have HF:=zCJ q p since nn V C R name _ (hs.rd _) (hs.val _) hI.val hk (by omega) hI.ups hI.r40 hs.v6 hφ;have HMS:=fun w=>zDc name w (by omega)
 have hr2:=(hI.find name).r40;have HSC:=zCm q p since nn V C (zAI C R name) (loB name) (hiB name) 53 _ (hs.scan C (loB name) (hiB name)) hs.nd (by omega) hr2 hs.vl hs.v1 (zFA hs.qr hI (loB name) (hiB name));have hok:=zCw (y:=valR rows (queB name)) (C:=C) (R:=R) (name:=name);have hMR:=fun h=>zOR (name:=name) hs.qr hI h
 have hhs:(hiB name).size=name.size+3:=by
  unfold hiB;simp only [ByteArray.size_append];show 1+1+name.size+1=_;omega
 have hhs1:=Nat.le_of_eq hhs;have hhs2:=Nat.le_of_eq hhs.symm;clear hhs;unfold zA3;unfold Qu.v at HF;generalize hLL:inR (loB name) (hiB name) (C.foldl appR rows)=L at *;have hLn:L.length≤1012:=by
  rw [←hLL];exact Nat.le_trans (List.length_filter_le _ _) (Nat.le_trans (zHu C rows) (by have:=hs.qr.len;omega))
 clear hLL;generalize zAO (valR rows (queB name)) C R name=f at *;generalize zAI C R name=R1 at *;generalize hiB name=hi at *;generalize loB name=lo at *;obtain ⟨⟨un,ut,ud⟩,f2⟩:=f;dsimp only at HF hok ⊢;clear hs hI;rcases zAk f2 with ⟨h0,e⟩ | ⟨M,h0,e⟩
 ·rw [e] at HF;rw [if_neg (by omega)];have hMR:=hMR (hok h0).2.2.2.2;clear hok e h0;by_cases h1:scnN L R1 lo hi 53≠0
  ·rw [if_pos h1];have e1:scnO L R1 lo hi 53=[]:=by unfold scnO;rw [if_neg h1]
   rw [e1] at HSC;dsimp only [List.length_nil,List.flatMap_nil] at HSC ⊢;generalize scnB L R1 lo hi 53=R2 at *;rcases zAk (scnN L R1 lo hi 53) with ⟨h0,e⟩ | ⟨M,h0,e⟩
   ·exact absurd h0 h1
   ·rw [e] at HSC ⊢;clear e h0 h1 e1 hMR;intro S W w L0 hO;simp only [CA] at hO;(replace hf:=fa_ hO);go_enter Tryz.func96,Tryz.ntmps96;go_wp2_with (first|(go_at_call 90;(with_reducible apply Does.use hO (HF);exact tk_;refine du_ ?_;clear hO hf;intro x9 w9 hO hf))|(go_at_call 180;(with_reducible apply Calls.mono (HMS _);refine cu_ ?_;clear hO hf;intro w8 hO hf))|(go_at_call 56;(with_reducible apply Does.use hO (HSC);exact tk_;refine du_ ?_;clear hO hf;intro x9 w9 hO hf;(obtain ⟨oa,oc⟩:=x9;dsimp only at hO ⊢;(replace hf:=fa_ hO))))|(refine sq_ ?_;clear hO hf;intro w9 hO hf));have hO:=hO.nil 92 4;go_ret2;refine ⟨(none,0),rfl,?_⟩;simp only [List.length_nil,List.flatMap_nil];(try simp only [CA]);exact hO.cut sb_
  ·have h1:scnN L R1 lo hi 53=0:=by omega
   rw [if_neg (by omega)];have e1:scnO L R1 lo hi 53=L.take 53:=by unfold scnO;rw [if_pos h1];rfl
   rw [e1,h1,show errV 0=.nilIface from rfl] at HSC;have hMO:=hMR.take 53;have hOl:(L.take 53).length≤53:=by rw [List.length_take];omega
   generalize scnB L R1 lo hi 53=R2 at *;generalize L.take 53=O at *;clear e1 h1 hMR hLn;have HMO:=Lib.hid hMO;clear hMO;generalize hyy:(if zFr O≠0 then (([]:List Ms),4,R2) else (O.map (fun r=>(msR r).1),0,R2))=y;have HY:=Lib.hid hyy.symm;clear hyy;intro S W w L0 hO;simp only [CA] at hO;(replace hf:=fa_ hO);go_enter Tryz.func96,Tryz.ntmps96;go_wp2_with (first|(go_at_call 90;(with_reducible apply Does.use hO (HF);exact tk_;refine du_ ?_;clear hO hf;intro x9 w9 hO hf))|(go_at_call 180;(with_reducible apply Calls.mono (HMS _);refine cu_ ?_;clear hO hf;intro w8 hO hf))|(go_at_call 56;(with_reducible apply Does.use hO (HSC);exact tk_;refine du_ ?_;clear hO hf;intro x9 w9 hO hf;(obtain ⟨oa,oc⟩:=x9;dsimp only at hO ⊢;(replace hf:=fa_ hO))))|(refine sq_ ?_;clear hO hf;intro w9 hO hf));obtain ⟨g,hg9⟩:=(hO.pick (r:=Var _ [.string lo,.string hi] 98) pk_).named;rw [←hg9];rw [←hg9] at hO;clear hg9;have hO9:=hO.nil 92 4;clear hO hf;go_loopw [10,40] (fun v10 v40 wr=>∃(j oc2:Nat) (ma:Option Addr),v10=.slice ma j oc2∧v40=.int .i64 j∧j≤O.length∧Hid (∀r∈O.take j,(msR r).2=0)∧Own S W wr ([Row2 92 4 ma j oc2 ((msG O j).flatMap msC),Var g [.string lo,.string hi] 98,ViewR q p since C R2,VerR p nn V,Row2 177 2 oa O.length oc (O.flatMap rwC),.imm φ]++L0)) (fun _ v _=>O.length-(intOf v).toNat)
   case atStart=>exact ⟨0,0,none,rfl,rfl,by omega,Lib.hid (fun _ h=>by simp at h),by rw [show (msG O 0).flatMap msC=[] from rfl];(try simp only [CA]);exact hO9.cut sb_⟩
   case round=>
    clear hO9;obtain ⟨j,oc2,ma,rfl,rfl,hj,HOK,hO⟩:=hrel;rename World=>w1
    simp only [List.cons_append,List.nil_append] at hO;(replace hf:=fa_ hO);by_cases hlt:j<O.length
    ·obtain ⟨n,hn,hkey,hval⟩:=HMO.out _ (List.getElem_mem hlt);obtain ⟨ob,oo,rfl⟩:=zDT (rowV (hO.factOf (r:=Row2 177 2 oa O.length oc (O.flatMap rwC)) pk_)) hlt;have hc01:=zCO (rowV (hO.factOf (r:=Row2 177 2 (some ⟨ob,oo,none⟩) O.length oc (O.flatMap rwC)) pk_)) hlt;have hmr:=zTG (v:=O[j].val) hn hkey;have hOj:(⟨O[j].key,O[j].val⟩:Rw)=O[j]:=rfl;have HGN:=Lib.hid (zRr hlt);have HKN:=Lib.hid (fun h=>zR2 hlt HOK.out h);have HBD:=Lib.hid (fun h=>zPp (List.getElem_mem hlt) h);have HLN:=Lib.hid (zSe (O:=O) (j:=j) (by omega));have hor:=zTT O[j];rw [←hOj,hmr] at HGN HKN HBD hor;clear hOj hmr;have HMP:=fun w h=>zH3 (numP n 6:Nat) O[j].val (by omega) w h
     rw [show msOf ((numP n 6:Nat):Int) O[j].val=msOf (n:Int) O[j].val from rfl] at HMP;obtain ⟨c0,c1⟩:=hc01;rw [hkey] at c0;generalize O[j].val=v at *;clear hkey;have hat:∀i,i<6→∀h,(msgB name n)[name.size+3+i]'h=d8 (numD n i):=fun i hi h=>zOF name hn hi h
     generalize hkk:msgB name n=ky at *;have hsz:ky.size=name.size+9:=by rw [←hkk];exact zAx name n
     clear hkk;have hds:(ky.extract hi.size ky.size).size=6:=by rw [ByteArray.size_extract];omega
     have hdd:∀i,i<6→∀h,(ky.extract hi.size ky.size)[i]'h=d8 (numD n i):=fun i hi3 h=>by
      have:=hat i hi3 (by omega);rw [←this,ByteArray.getElem_extract]
      congr 1
      omega
     have hsz2:hi.size≤ky.size∧ky.size≤hi.size+6∧hi.size+6≤ky.size:=by omega
     have hs203:hi.size≤203:=by omega
     clear hsz hat;obtain ⟨hs4,hs5,hs6⟩:=hsz2;generalize hdk:ky.extract hi.size ky.size=d at *;have hds1:=Lib.hid hds;have hdd1:=Lib.hid hdd;clear hds hdd;generalize hmm:msOf (n:Int) v=mm at *;obtain ⟨⟨m1,m2,m3,m4⟩,me⟩:=mm;unfold Ms.v at HMP;unfold Ms.z at hor;dsimp only at HMP HGN HKN HBD hor;have HOR:=Lib.hid hor;clear hmm hor;go_upto_region 13 with ((refine sq_ ?_;clear hO;(try clear hf);intro w9 hO hf))
     go_wp2;go_loopw [13,15] (fun v13 v15 wr=>∃i:Nat,i≤6∧v13=.int .i64 (numP n i)∧wr=w9.iter d i) (fun _ _ wr=>6-zLH wr w9.heap.size)
     case atStart=>exact ⟨0,by omega,rfl,rfl⟩
     case round=>
      obtain ⟨i,hi6,rfl,rfl⟩:=hrel;by_cases hlt3:i<6
      ·obtain ⟨n1,n2,n3⟩:=zKe hn hlt3;have hlt2:i<d.size:=by have:=hds1.out;omega
       have hd8:(d8 (numD n i)).toNat=48+numD n i:=zA2 _ n2;have hde:d[i].toNat=48+numD n i:=by rw [hdd1.out i hlt3 hlt2];exact hd8
       have hnx:=fun ty=>run_next_ascii (P:=Tryz.prog) w9 d i ty hlt2 (by omega)
       rw [hde] at hnx;go_wp2;exact ⟨⟨i+1,by omega,by rw [n1];go_num,rfl⟩,by rw [zEg,zEg];omega⟩
      ·obtain rfl:i=6:=by omega
       have hnx:=fun ty=>run_next_end (P:=Tryz.prog) w9 d 6 ty (by have:=hds1.out;omega)
       replace hO:=hO.ext ((Ext.refl w9).iter d 6);(replace hf:=fa_ hO);rcases HOR.out with rfl | ⟨rfl,he⟩
       ·have hOK2:=HKN.out rfl;rw [show errV 0=.nilIface from rfl] at HMP;go_wp2_with (first|(go_at_call 181;(with_reducible apply Calls.mono (HMP _ (hφ _ (Own.immOf (φ:=φ) hO pk_)));refine cu_ ?_;clear hO;(try clear hf);intro w8 hO hf))|(at_builtin;(refine zAH (e:=92) (size:=4) (xs:=(msG O j).flatMap msC) (news:=[.int .i64 m1,.int .i64 m2,.int .i64 m3,.string m4]) hO pk_ pk_ rfl (.tmp 70) (.tmp 72) 168 rfl iM _ 40 Tryz.underlying168 hiM hzM hsM hbM rfl (by omega) rfl _ _ rfl (by rfl) (by repeat (first | exact zAp | refine zAf rfl ?_)) (by unfold maxLen;omega) (by omega) ?_;clear hO;intro ka9 kc9 w9 hO;(replace hf:=fa_ hO)))|(refine sq_ ?_;clear hO;(try clear hf);intro w9 hO hf));refine ⟨⟨j+1,kc9,ka9,rfl,by go_num,by omega,Lib.hid hOK2,?_⟩,by simp [intOf];omega⟩;rw [HGN.out,zTj];(try simp only [CA]);exact hO.cut sb_
       ·have h4:=HBD.out rfl;rw [show errV 4=.iface 124 (.int .i64 4) from rfl] at HMP;go_wp2_with (first|(go_at_call 181;(with_reducible apply Calls.mono (HMP _ (hφ _ (Own.immOf (φ:=φ) hO pk_)));refine cu_ ?_;clear hO;(try clear hf);intro w8 hO hf))|(refine sq_ ?_;clear hO;(try clear hf);intro w9 hO hf));rw [HY.out,h4,if_pos (by omega)];have hO:=hO.nil 92 4;go_ret2;refine ⟨(none,0),rfl,?_⟩;simp only [List.length_nil,List.flatMap_nil];(try simp only [CA]);exact hO.cut sb_
    ·obtain rfl:j=O.length:=by omega
     have h4:zFr O=0:=zSR (by have:=HOK.out;rw [List.take_length] at this;exact this);rw [zSx] at hO;go_wp2_with (refine sq_ ?_;clear hO;(try clear hf);intro w9 hO hf);go_ret2;rw [HY.out,h4,if_neg (by omega)];dsimp only;refine ⟨(ma,oc2),by simp;rfl,?_⟩;simp only [List.length_map];(try simp only [CA]);exact hO.cut sb_
 ·rw [e] at HF;rw [if_pos h0];dsimp only;rw [e];clear hok e hMR;intro S W w L0 hO;simp only [CA] at hO;(replace hf:=fa_ hO);go_enter Tryz.func96,Tryz.ntmps96;go_wp2_with (first|(go_at_call 90;(with_reducible apply Does.use hO (HF);exact tk_;refine du_ ?_;clear hO hf;intro x9 w9 hO hf))|(refine sq_ ?_;clear hO hf;intro w9 hO hf));have hO:=hO.nil 92 4;go_ret2;refine ⟨(none,0),rfl,?_⟩;simp only [List.length_nil,List.flatMap_nil];(try simp only [CA]);exact hO.cut sb_
theorem zCP (n:Nat) (w:World) (hn:n≤1000):Calls Tryz.prog 129 #[errV n] w fun e w'=>e=.returned (.string (zAs n))∧Ext w w':=by
 have HN:=fun w=>zEZ n w hn
 have HD:=fun w=>zDH n w (by omega)
 have hz:=zAR 3 n (by omega);unfold zAs;generalize errV n=ev at *;generalize zAM n=t at *;have hO:=Own.start w (fun _=>False);(replace hf:=fa_ hO);go_enter Tryz.func129,Tryz.ntmps129;go_wp2_with (first|(go_at_call 45;(with_reducible apply Calls.mono (HN _);rintro e8 w8 ⟨rfl,rfl⟩;dsimp only))|(go_at_call 107;(with_reducible refine Own.quiet hO (HD _) (ru_ ?_);clear hO hf;intro w9 hO hf))|(refine sq_ ?_;clear hO hf;intro w9 hO hf));all_goals try (exfalso;omega;done)
 go_ret;exact ⟨rfl,hO.toExt⟩
theorem zBl (n:Nat) (h:n≤1000):(zAs n).size≤10:=by
 unfold zAs;have:=zAR 3 n (by omega);rw [ByteArray.size_append];show 1+(zAM n).size≤10;omega
theorem zIE {m:Ms} (h:MsIn m):(msT m).size≤200:=by
 obtain ⟨h1,h2,h3,h4,h5,h6,h7⟩:=h;obtain ⟨a,b,c,d⟩:=m;dsimp only at *;obtain ⟨a,rfl⟩:=Int.eq_ofNat_of_zero_le h1;obtain ⟨b,rfl⟩:=Int.eq_ofNat_of_zero_le h3;obtain ⟨c,rfl⟩:=Int.eq_ofNat_of_zero_le h5;have:=zAR 7 a (by omega);have:=zAR 7 b (by omega);have:=zAR 7 c (by omega);unfold msT decT;rw [ByteArray.size_append,ByteArray.size_append,ByteArray.size_append,ByteArray.size_append,ByteArray.size_append,ByteArray.size_append];show (zAM a).size+1+(zAM b).size+1+(zAM c).size+1+d.size≤200;omega
theorem zPc {l:List Ms} (h:∀m∈l,MsIn m):(zD9 l).size≤201*l.length:=by
 suffices ∀i,i≤l.length→(zD9 (l.take i)).size≤201*i by
  have:=this l.length (Nat.le_refl _)
  rwa [List.take_length] at this
 intro i
 induction i with
 | zero=>intro _;exact Nat.zero_le _
 | succ i ih=>
  intro hi;have h1:=zIE (h _ (List.getElem_mem (show i<l.length by omega)));have h2:=ih (by omega);rw [zIx l (by omega),ByteArray.size_append,ByteArray.size_append];show _+_+1≤_;omega
theorem zPZ {l:List Rw} (h:∀r∈l,r.key.size≤300∧r.val.size≤300):(zC1 l).size≤602*l.length:=by
 suffices ∀i,i≤l.length→(zC1 (l.take i)).size≤602*i by
  have:=this l.length (Nat.le_refl _)
  rwa [List.take_length] at this
 intro i
 induction i with
 | zero=>intro _;exact Nat.zero_le _
 | succ i ih=>
  intro hi;have h1:=h _ (List.getElem_mem (show i<l.length by omega));have h2:=ih (by omega);rw [zFi l (by omega),ByteArray.size_append,ByteArray.size_append,ByteArray.size_append,ByteArray.size_append];show _+_+1+_+1≤_;omega
theorem zNu (a b c:Nat) (d:ByteArray) (w:World) (ha:a≤2000000000) (hb:b≤2000000000) (hc:c≤2000000000) (hd:d.size≤100):Calls Tryz.prog 130 #[.agg #[.int .i64 a,.int .i64 b,.int .i64 c,.string d]] w fun e w'=>e=.returned (.string (zAM a++⟨#[44]⟩++zAM b++⟨#[44]⟩++zAM c++⟨#[44]⟩++d))∧Ext w w':=by
 have HA:=fun w=>zDH a w ha
 have HB:=fun w=>zDH b w hb
 have HC:=fun w=>zDH c w hc
 have hza:=zAR 9 a (by omega);have hzb:=zAR 9 b (by omega);have hzc:=zAR 9 c (by omega);generalize zAM a=ta at *;generalize zAM b=tb at *;generalize zAM c=tc at *;generalize (a:Int)=a at *;generalize (b:Int)=b at *;generalize (c:Int)=c at *;have hO:=Own.start w (fun _=>False);(replace hf:=fa_ hO);go_enter Tryz.func130,Tryz.ntmps130;go_wp2_with (refine sq_ ?_;clear hO hf;intro w9 hO hf);(refine rg_ hO ((0,0)::(1,1)::(3,2)::(0,3)::(0,4)::(1,5)::(3,6)::(0,7)::(0,8)::(0,9)::(1,10)::(3,11)::(0,12)::(0,13)::(0,14)::(1,15)::(0,16)::(0,17)::[]) ?_;clear hO;intro w9 hO;replace hf:=fa_ hO;(repeat (first|(apply zAG _ rfl rfl rfl;focus (intro w8 K8 hK8;(repeat (first | go_skip | go_guarded | go_step));exact hK8))|(apply zAJ _ rfl rfl rfl;focus (intro w8 hx8 K8 hK8;have hO:=hO.ext hx8;(replace hf:=fa_ hO);skip;(repeat (first | go_skip | go_guarded | go_step));exact hK8))|(apply zAL _ rfl;(focus (intro w8 hx8 K8 hK8;have hO:=hO.ext hx8;(replace hf:=fa_ hO);(repeat (first | go_skip | go_guarded | go_step | (go_at_call 107;(with_reducible refine Calls.mono (HA _) ?_;rintro e7 w7 ⟨rfl,hx7⟩;dsimp only))|(go_at_call 107;(with_reducible refine Calls.mono (HB _) ?_;rintro e7 w7 ⟨rfl,hx7⟩;dsimp only))|(go_at_call 107;(with_reducible refine Calls.mono (HC _) ?_;rintro e7 w7 ⟨rfl,hx7⟩;dsimp only))));(first | exact xt_ | exact hK8 _ xt_)));(focus (exact rfl));intro w8 hx8;replace hO:=hO.ext hx8;clear hx8;(replace hf:=fa_ hO)))));refine zAA ?_;go_wp2_with (refine sq_ ?_;clear hO hf;intro w9 hO hf);go_ret;exact ⟨rfl,hO.toExt⟩
theorem zLl (m:Ms) (h:MsIn m) (w:World):Calls Tryz.prog 130 #[m.v] w fun e w'=>e=.returned (.string (msT m))∧Ext w w':=by
 obtain ⟨a,b,c,d⟩:=m;obtain ⟨h1,h2,h3,h4,h5,h6,h7⟩:=h;dsimp only at *;obtain ⟨a,rfl⟩:=Int.eq_ofNat_of_zero_le h1;obtain ⟨b,rfl⟩:=Int.eq_ofNat_of_zero_le h3;obtain ⟨c,rfl⟩:=Int.eq_ofNat_of_zero_le h5;exact zNu a b c d w (by omega) (by omega) (by omega) h7
theorem zQb {rows:List Rw} {C:List Ch} {R:List Sp} (hr:QRows rows) (h:QInv C R) (lo hi:ByteArray) (R':List Sp) (most:Int):∀r∈scnO (inR lo hi (C.foldl appR rows)) R' lo hi most,r.key.size≤300∧r.val.size≤300:=fun r hm=>by
 unfold scnO at hm;split at hm
 ·have h1:=zGv hr h r (List.mem_filter.1 (List.mem_of_mem_take hm)).1;have:=h1.1.size_le;exact ⟨by omega,by omega⟩
 ·cases hm
theorem zN4 (q p since nn:Nat) (V:List (ByteArray×List Vn)) (rows:List Rw) (hs:Seen V since rows) (C:List Ch) (R:List Sp) (hI:QInv C R) (x:Ac) (hxs:x.s.size≤120) (hxt:x.t.size≤100) {φ:World→Prop} (hφ:∀w,φ w→LibOk w) (k0:(x.kind.toList==[99,114,101,97,116,101])=true) :
 Does Tryz.prog 54 #[.pointer (some ⟨q,0,none⟩),x.v] [ViewR q p since C R,VerR p nn V,.imm φ] (fun _:Unit=>(.string (zAs (zAq (valR rows) C R x.s x.a x.t).1),[ViewR q p since (zAq (valR rows) C R x.s x.a x.t).2.1 (zAq (valR rows) C R x.s x.a x.t).2.2,VerR p nn V,.imm φ])):=by
 have hc12:=hI.c12;have hr40:=hI.r40;have hrl:=hs.qr.len;have HC:=zMI q p since nn V (valR rows) C R x.s x.a x.t hs.rd hs.val hI.val (by omega) (by omega) (by omega) hI.ups hI.r40 hs.v6 hφ;have HF:=fun w=>zCP (zAq (valR rows) C R x.s x.a x.t).1 w (zJG _ _ _ _ _ _)
 have hfz:=zBl (zAq (valR rows) C R x.s x.a x.t).1 (zJG _ _ _ _ _ _);generalize zAq (valR rows) C R x.s x.a x.t=y at *;obtain ⟨N,C',R'⟩:=y;dsimp only at HC HF hfz ⊢;generalize errV N=ev at *;generalize zAs N=ft at *;obtain ⟨xkind,xA,xB,xC,xK,xS,xT,xcp,xcc,xch,xsp,xsc,xspn⟩:=x;unfold Ac.v;dsimp only at *;clear hs hI;intro S W w L0 hO;simp only [CA] at hO;(replace hf:=fa_ hO);go_enter Tryz.func54,Tryz.ntmps54;go_wp2_with (first|(go_at_call 47;(with_reducible apply Does.use hO (HC);exact tk_;refine du_ ?_;clear hO hf;intro x9 w9 hO hf))|(go_at_call 129;(with_reducible refine Own.quiet hO (HF _) (ru_ ?_);clear hO hf;intro w9 hO hf))|(refine sq_ ?_;clear hO hf;intro w9 hO hf));go_ret;refine ⟨(),rfl,?_⟩;(try simp only [CA]);exact hO.cut sb_
theorem zQT (q p since nn:Nat) (V:List (ByteArray×List Vn)) (rows:List Rw) (hs:Seen V since rows) (C:List Ch) (R:List Sp) (hI:QInv C R) (x:Ac) (hxs:x.s.size≤120) (hxt:x.t.size≤100) {φ:World→Prop} (hφ:∀w,φ w→LibOk w) (k0:(x.kind.toList==[99,114,101,97,116,101])=false) (k1:(x.kind.toList==[115,101,110,100])=true) :
 Does Tryz.prog 54 #[.pointer (some ⟨q,0,none⟩),x.v] [ViewR q p since C R,VerR p nn V,.imm φ] (fun _:Unit=>(.string (decT (zBa (valR rows (queB x.s)) C R x.s x.t x.a).1++zAs (zBa (valR rows (queB x.s)) C R x.s x.t x.a).2.1),[ViewR q p since (zBa (valR rows (queB x.s)) C R x.s x.t x.a).2.2 (zAI C R x.s),VerR p nn V,.imm φ])):=by
 have hc12:=hI.c12;have hr40:=hI.r40;have hrl:=hs.qr.len;have HC:=zOy q p since nn V C R x.s x.t x.a _ (hs.rd _) (hs.val _) hI.val (by omega) (by omega) hI.ups hI.r40 hs.v6 hφ;have HF:=fun w=>zCP (zBa (valR rows (queB x.s)) C R x.s x.t x.a).2.1 w (zMi _ _ _ _ _ _)
 have hfz:=zBl (zBa (valR rows (queB x.s)) C R x.s x.t x.a).2.1 (zMi _ _ _ _ _ _);have HIN:=zRR (valR rows (queB x.s)) C R x.s x.t x.a;unfold decT;generalize zBa (valR rows (queB x.s)) C R x.s x.t x.a=y at *;generalize zAI C R x.s=R' at *;obtain ⟨n,N,C'⟩:=y;dsimp only at HC HF hfz HIN ⊢;obtain ⟨n,rfl⟩:=Int.eq_ofNat_of_zero_le HIN.1;have HD:=fun w=>zDH n w (by omega)
 have hzn:=zAR 9 n (by omega);clear HIN;generalize zAM (n:Int)=tn at *;generalize (n:Int)=n at *;generalize errV N=ev at *;generalize zAs N=ft at *;obtain ⟨xkind,xA,xB,xC,xK,xS,xT,xcp,xcc,xch,xsp,xsc,xspn⟩:=x;unfold Ac.v;dsimp only at *;clear hs hI;intro S W w L0 hO;simp only [CA] at hO;(replace hf:=fa_ hO);go_enter Tryz.func54,Tryz.ntmps54;go_wp2_with (first|(go_at_call 48;(with_reducible apply Does.use hO (HC);exact tk_;refine du_ ?_;clear hO hf;intro x9 w9 hO hf))|(go_at_call 107;(with_reducible refine Own.quiet hO (HD _) (ru_ ?_);clear hO hf;intro w9 hO hf))|(go_at_call 129;(with_reducible refine Own.quiet hO (HF _) (ru_ ?_);clear hO hf;intro w9 hO hf))|(refine sq_ ?_;clear hO hf;intro w9 hO hf));all_goals try (exfalso;omega;done)
 go_ret;refine ⟨(),rfl,?_⟩;(try simp only [CA]);exact hO.cut sb_
theorem zLf (q p since nn:Nat) (V:List (ByteArray×List Vn)) (rows:List Rw) (hs:Seen V since rows) (C:List Ch) (R:List Sp) (hI:QInv C R) (x:Ac) (hxs:x.s.size≤120) (hxt:x.t.size≤100) {φ:World→Prop} (hφ:∀w,φ w→LibOk w) (res:Ms×Nat×List Ch×List Sp) (hr:RecvAns rows C R x.s x.a x.b res) (k0:(x.kind.toList==[99,114,101,97,116,101])=false) (k1:(x.kind.toList==[115,101,110,100])=false) (k2:(x.kind.toList==[114,101,99,101,105,118,101])=true) :
 Does Tryz.prog 54 #[.pointer (some ⟨q,0,none⟩),x.v] [ViewR q p since C R,VerR p nn V,.imm φ] (fun _:Unit=>(.string (msT res.1++zAs res.2.1),[ViewR q p since res.2.2.1 res.2.2.2,VerR p nn V,.imm φ])):=by
 have hc12:=hI.c12;have hr40:=hI.r40;have hrl:=hs.qr.len;have HC:=zLD q p since nn V rows hs C R x.s x.a x.b res hr hI (by omega) hφ;have HF:=fun w=>zCP res.2.1 w hr.le
 have hfz:=zBl res.2.1 hr.le;have HM:=fun w=>zLl res.1 hr.in w
 have hmz:=zIE hr.in;clear hr;obtain ⟨m,N,C',R'⟩:=res;dsimp only at HC HF hfz HM hmz ⊢;generalize msT m=mt at *;obtain ⟨m1,m2,m3,m4⟩:=m;unfold Ms.v at HC HM;dsimp only at HC HM;generalize errV N=ev at *;generalize zAs N=ft at *;obtain ⟨xkind,xA,xB,xC,xK,xS,xT,xcp,xcc,xch,xsp,xsc,xspn⟩:=x;unfold Ac.v;dsimp only at *;clear hs hI;intro S W w L0 hO;simp only [CA] at hO;(replace hf:=fa_ hO);go_enter Tryz.func54,Tryz.ntmps54;go_wp2_with (first|(go_at_call 49;(with_reducible apply Does.use hO (HC);exact tk_;refine du_ ?_;clear hO hf;intro x9 w9 hO hf))|(go_at_call 130;(with_reducible refine Own.quiet hO (HM _) (ru_ ?_);clear hO hf;intro w9 hO hf))|(go_at_call 129;(with_reducible refine Own.quiet hO (HF _) (ru_ ?_);clear hO hf;intro w9 hO hf))|(refine sq_ ?_;clear hO hf;intro w9 hO hf));all_goals try (exfalso;omega;done)
 go_ret;refine ⟨(),rfl,?_⟩;(try simp only [CA]);exact hO.cut sb_
theorem zSL (q p since nn:Nat) (V:List (ByteArray×List Vn)) (rows:List Rw) (hs:Seen V since rows) (C:List Ch) (R:List Sp) (hI:QInv C R) (x:Ac) (hxs:x.s.size≤120) (hxt:x.t.size≤100) {φ:World→Prop} (hφ:∀w,φ w→LibOk w) (k0:(x.kind.toList==[99,114,101,97,116,101])=false) (k1:(x.kind.toList==[115,101,110,100])=false) (k2:(x.kind.toList==[114,101,99,101,105,118,101])=false) (k3:(x.kind.toList==[97,99,107])=true) :
 Does Tryz.prog 54 #[.pointer (some ⟨q,0,none⟩),x.v] [ViewR q p since C R,VerR p nn V,.imm φ] (fun _:Unit=>(.string (zAs (ackA (valR rows) C R x.s x.a x.b).1),[ViewR q p since (ackA (valR rows) C R x.s x.a x.b).2 (zBK (valR rows) C R x.s x.a x.b),VerR p nn V,.imm φ])):=by
 have hc12:=hI.c12;have hr40:=hI.r40;have hrl:=hs.qr.len;have HC:=zQJ q p since nn V (valR rows) C R x.s x.a x.b hs.rd hs.val hI.val (by omega) (by omega) hI.ups hI.r40 hs.v6 hφ;have HF:=fun w=>zCP (ackA (valR rows) C R x.s x.a x.b).1 w (zON _ _ _ _ _ _)
 have hfz:=zBl (ackA (valR rows) C R x.s x.a x.b).1 (zON _ _ _ _ _ _);generalize ackA (valR rows) C R x.s x.a x.b=y at *;generalize zBK (valR rows) C R x.s x.a x.b=R' at *;obtain ⟨N,C'⟩:=y;dsimp only at HC HF hfz ⊢;generalize errV N=ev at *;generalize zAs N=ft at *;obtain ⟨xkind,xA,xB,xC,xK,xS,xT,xcp,xcc,xch,xsp,xsc,xspn⟩:=x;unfold Ac.v;dsimp only at *;clear hs hI;intro S W w L0 hO;simp only [CA] at hO;(replace hf:=fa_ hO);go_enter Tryz.func54,Tryz.ntmps54;go_wp2_with (first|(go_at_call 50;(with_reducible apply Does.use hO (HC);exact tk_;refine du_ ?_;clear hO hf;intro x9 w9 hO hf))|(go_at_call 129;(with_reducible refine Own.quiet hO (HF _) (ru_ ?_);clear hO hf;intro w9 hO hf))|(refine sq_ ?_;clear hO hf;intro w9 hO hf));go_ret;refine ⟨(),rfl,?_⟩;(try simp only [CA]);exact hO.cut sb_
theorem zQv (q p since nn:Nat) (V:List (ByteArray×List Vn)) (rows:List Rw) (hs:Seen V since rows) (C:List Ch) (R:List Sp) (hI:QInv C R) (x:Ac) (hxs:x.s.size≤120) (hxt:x.t.size≤100) {φ:World→Prop} (hφ:∀w,φ w→LibOk w) (k0:(x.kind.toList==[99,114,101,97,116,101])=false) (k1:(x.kind.toList==[115,101,110,100])=false) (k2:(x.kind.toList==[114,101,99,101,105,118,101])=false) (k3:(x.kind.toList==[97,99,107])=false) (k4:(x.kind.toList==[119,97,105,116])=true) :
 Does Tryz.prog 54 #[.pointer (some ⟨q,0,none⟩),x.v] [ViewR q p since C R,VerR p nn V,.imm φ] (fun _:Unit=>(.string (zAs (zCL (valR rows) C R x.s x.a x.b x.c).1),[ViewR q p since (zCL (valR rows) C R x.s x.a x.b x.c).2 (zBK (valR rows) C R x.s x.a x.b),VerR p nn V,.imm φ])):=by
 have hc12:=hI.c12;have hr40:=hI.r40;have hrl:=hs.qr.len;have HC:=zO7 q p since nn V (valR rows) C R x.s x.a x.b x.c hs.rd hs.val hI.val (by omega) (by omega) hI.ups hI.r40 hs.v6 hφ;have HF:=fun w=>zCP (zCL (valR rows) C R x.s x.a x.b x.c).1 w (zLU _ _ _ _ _ _ _)
 have hfz:=zBl (zCL (valR rows) C R x.s x.a x.b x.c).1 (zLU _ _ _ _ _ _ _);generalize zCL (valR rows) C R x.s x.a x.b x.c=y at *;generalize zBK (valR rows) C R x.s x.a x.b=R' at *;obtain ⟨N,C'⟩:=y;dsimp only at HC HF hfz ⊢;generalize errV N=ev at *;generalize zAs N=ft at *;obtain ⟨xkind,xA,xB,xC,xK,xS,xT,xcp,xcc,xch,xsp,xsc,xspn⟩:=x;unfold Ac.v;dsimp only at *;clear hs hI;intro S W w L0 hO;simp only [CA] at hO;(replace hf:=fa_ hO);go_enter Tryz.func54,Tryz.ntmps54;go_wp2_with (first|(go_at_call 88;(with_reducible apply Does.use hO (HC);exact tk_;refine du_ ?_;clear hO hf;intro x9 w9 hO hf))|(go_at_call 129;(with_reducible refine Own.quiet hO (HF _) (ru_ ?_);clear hO hf;intro w9 hO hf))|(refine sq_ ?_;clear hO hf;intro w9 hO hf));go_ret;refine ⟨(),rfl,?_⟩;(try simp only [CA]);exact hO.cut sb_
theorem zRY (q p since nn:Nat) (V:List (ByteArray×List Vn)) (rows:List Rw) (hs:Seen V since rows) (C:List Ch) (R:List Sp) (hI:QInv C R) (x:Ac) (hxs:x.s.size≤120) (hxt:x.t.size≤100) {φ:World→Prop} (hφ:∀w,φ w→LibOk w) (k0:(x.kind.toList==[99,114,101,97,116,101])=false) (k1:(x.kind.toList==[115,101,110,100])=false) (k2:(x.kind.toList==[114,101,99,101,105,118,101])=false) (k3:(x.kind.toList==[97,99,107])=false) (k4:(x.kind.toList==[119,97,105,116])=false) (k5:(x.kind.toList==[112,117,116])=true) :
 Does Tryz.prog 54 #[.pointer (some ⟨q,0,none⟩),x.v] [ViewR q p since C R,VerR p nn V,.imm φ] (fun _:Unit=>(.string (zAs (putN C ⟨x.s,x.t,false⟩)),[ViewR q p since (putL C ⟨x.s,x.t,false⟩) R,VerR p nn V,.imm φ])):=by
 have hc12:=hI.c12;have hr40:=hI.r40;have hrl:=hs.qr.len;have HC:=zEH q p since C R x.s x.t (by omega) (by omega) (by omega) hI.ups hφ;have HF:=fun w=>zCP (putN C ⟨x.s,x.t,false⟩) w (zC9 _ _)
 have hfz:=zBl (putN C ⟨x.s,x.t,false⟩) (zC9 _ _);generalize putN C ⟨x.s,x.t,false⟩=N at *;generalize putL C ⟨x.s,x.t,false⟩=C' at *;generalize errV N=ev at *;generalize zAs N=ft at *;obtain ⟨xkind,xA,xB,xC,xK,xS,xT,xcp,xcc,xch,xsp,xsc,xspn⟩:=x;unfold Ac.v;dsimp only at *;clear hs hI;intro S W w L0 hO;simp only [CA] at hO;(replace hf:=fa_ hO);go_enter Tryz.func54,Tryz.ntmps54;go_wp2_with (first|(go_at_call 44;(with_reducible apply Does.use hO (HC);exact tk_;refine du_ ?_;clear hO hf;intro x9 w9 hO hf))|(go_at_call 129;(with_reducible refine Own.quiet hO (HF _) (ru_ ?_);clear hO hf;intro w9 hO hf))|(refine sq_ ?_;clear hO hf;intro w9 hO hf));go_ret;refine ⟨(),rfl,?_⟩;(try simp only [CA]);exact hO.cut sb_
theorem zNQ (q p since nn:Nat) (V:List (ByteArray×List Vn)) (rows:List Rw) (hs:Seen V since rows) (C:List Ch) (R:List Sp) (hI:QInv C R) (x:Ac) (hxs:x.s.size≤120) (hxt:x.t.size≤100) {φ:World→Prop} (hφ:∀w,φ w→LibOk w) (k0:(x.kind.toList==[99,114,101,97,116,101])=false) (k1:(x.kind.toList==[115,101,110,100])=false) (k2:(x.kind.toList==[114,101,99,101,105,118,101])=false) (k3:(x.kind.toList==[97,99,107])=false) (k4:(x.kind.toList==[119,97,105,116])=false) (k5:(x.kind.toList==[112,117,116])=false) (k6:(x.kind.toList==[100,101,108,101,116,101])=true) :
 Does Tryz.prog 54 #[.pointer (some ⟨q,0,none⟩),x.v] [ViewR q p since C R,VerR p nn V,.imm φ] (fun _:Unit=>(.string (zAs (putN C ⟨x.s,⟨#[]⟩,true⟩)),[ViewR q p since (putL C ⟨x.s,⟨#[]⟩,true⟩) R,VerR p nn V,.imm φ])):=by
 have hc12:=hI.c12;have hr40:=hI.r40;have hrl:=hs.qr.len;have HC:=zCW q p since C R x.s (by omega) (by omega) hI.ups hφ;have HF:=fun w=>zCP (putN C ⟨x.s,⟨#[]⟩,true⟩) w (zC9 _ _)
 have hfz:=zBl (putN C ⟨x.s,⟨#[]⟩,true⟩) (zC9 _ _);generalize putN C ⟨x.s,⟨#[]⟩,true⟩=N at *;generalize putL C ⟨x.s,⟨#[]⟩,true⟩=C' at *;generalize errV N=ev at *;generalize zAs N=ft at *;obtain ⟨xkind,xA,xB,xC,xK,xS,xT,xcp,xcc,xch,xsp,xsc,xspn⟩:=x;unfold Ac.v;dsimp only at *;clear hs hI;intro S W w L0 hO;simp only [CA] at hO;(replace hf:=fa_ hO);go_enter Tryz.func54,Tryz.ntmps54;go_wp2_with (first|(go_at_call 93;(with_reducible apply Does.use hO (HC);exact tk_;refine du_ ?_;clear hO hf;intro x9 w9 hO hf))|(go_at_call 129;(with_reducible refine Own.quiet hO (HF _) (ru_ ?_);clear hO hf;intro w9 hO hf))|(refine sq_ ?_;clear hO hf;intro w9 hO hf));go_ret;refine ⟨(),rfl,?_⟩;(try simp only [CA]);exact hO.cut sb_
theorem zR0 (q p since nn:Nat) (V:List (ByteArray×List Vn)) (rows:List Rw) (hs:Seen V since rows) (C:List Ch) (R:List Sp) (hI:QInv C R) (x:Ac) (hxs:x.s.size≤120) (hxt:x.t.size≤100) {φ:World→Prop} (hφ:∀w,φ w→LibOk w) (k0:(x.kind.toList==[99,114,101,97,116,101])=false) (k1:(x.kind.toList==[115,101,110,100])=false) (k2:(x.kind.toList==[114,101,99,101,105,118,101])=false) (k3:(x.kind.toList==[97,99,107])=false) (k4:(x.kind.toList==[119,97,105,116])=false) (k5:(x.kind.toList==[112,117,116])=false) (k6:(x.kind.toList==[100,101,108,101,116,101])=false) (k7:(x.kind.toList==[103,101,116])=true) :
 Does Tryz.prog 54 #[.pointer (some ⟨q,0,none⟩),x.v] [ViewR q p since C R,VerR p nn V,.imm φ] (fun _:Unit=>(.string (getT (getG (valR rows x.s) C R x.s)),[ViewR q p since C (getB C R x.s),VerR p nn V,.imm φ])):=by
 have hc12:=hI.c12;have hr40:=hI.r40;have hrl:=hs.qr.len;have HC:=zE3 q p since nn V C R x.s (by omega) (by omega) hI.ups hI.r40 hs.v6 hφ;rw [zIu,hs.rd] at HC;have HF:=fun w=>zCP (getG (valR rows x.s) C R x.s).2.2 w (zGz _ _ _ _)
 have hfz:=zBl (getG (valR rows x.s) C R x.s).2.2 (zGz _ _ _ _);have hgz:=zGA (y:=valR rows x.s) (C:=C) (R:=R) (k:=x.s) (hs.val _) hI.val;unfold getT;generalize getG (valR rows x.s) C R x.s=y at *;generalize getB C R x.s=R' at *;obtain ⟨yv,yb,N⟩:=y;dsimp only at HC HF hfz hgz ⊢;generalize errV N=ev at *;generalize zAs N=ft at *;obtain ⟨xkind,xA,xB,xC,xK,xS,xT,xcp,xcc,xch,xsp,xsc,xspn⟩:=x;unfold Ac.v;dsimp only at *;clear hs hI;intro S W w L0 hO;simp only [CA] at hO;(replace hf:=fa_ hO);go_enter Tryz.func54,Tryz.ntmps54;cases yb;all_goals
  simp only [Bool.false_eq_true,if_false,if_true];go_wp2_with (first|(go_at_call 43;(with_reducible apply Does.use hO (HC);exact tk_;refine du_ ?_;clear hO hf;intro x9 w9 hO hf))|(go_at_call 129;(with_reducible refine Own.quiet hO (HF _) (ru_ ?_);clear hO hf;intro w9 hO hf))|(refine sq_ ?_;clear hO hf;intro w9 hO hf));all_goals try (exfalso;omega;done)
  go_ret;refine ⟨(),rfl,?_⟩;(try simp only [CA]);exact hO.cut sb_
theorem zLB (q p since nn:Nat) (V:List (ByteArray×List Vn)) (rows:List Rw) (hs:Seen V since rows) (C:List Ch) (R:List Sp) (hI:QInv C R) (x:Ac) (hxs:x.s.size≤120) (hxt:x.t.size≤100) {φ:World→Prop} (hφ:∀w,φ w→LibOk w) (k0:(x.kind.toList==[99,114,101,97,116,101])=false) (k1:(x.kind.toList==[115,101,110,100])=false) (k2:(x.kind.toList==[114,101,99,101,105,118,101])=false) (k3:(x.kind.toList==[97,99,107])=false) (k4:(x.kind.toList==[119,97,105,116])=false) (k5:(x.kind.toList==[112,117,116])=false) (k6:(x.kind.toList==[100,101,108,101,116,101])=false) (k7:(x.kind.toList==[103,101,116])=false) (k8:(x.kind.toList==[109,101,115,115,97,103,101,115])=true) :
 Does Tryz.prog 54 #[.pointer (some ⟨q,0,none⟩),x.v] [ViewR q p since C R,VerR p nn V,.imm φ] (fun _:Unit=>(.string (zD9 (zA3 rows C R x.s).1++zAs (zA3 rows C R x.s).2.1),[ViewR q p since C (zA3 rows C R x.s).2.2,VerR p nn V,.imm φ])):=by
 have hc12:=hI.c12;have hr40:=hI.r40;have hrl:=hs.qr.len;have HC:=zJu q p since nn V rows hs C R x.s hI (by omega) hφ;have HF:=fun w=>zCP (zA3 rows C R x.s).2.1 w (zMh _ _ _ _)
 have hfz:=zBl (zA3 rows C R x.s).2.1 (zMh _ _ _ _);have HLN:=zP8 rows C R x.s;have HIN:=zRO hs.qr hI x.s;generalize zA3 rows C R x.s=y at *;obtain ⟨O,N,R'⟩:=y;dsimp only at HC HF hfz HLN HIN ⊢;have HM:=fun (i:Nat) (h:i<O.length) w=>zLl O[i] (HIN _ (List.getElem_mem h)) w
 have HMZ:=fun (i:Nat) (h:i<O.length)=>zIE (HIN _ (List.getElem_mem h))
 have HPZ:=fun (i:Nat)=>zPc (l:=O.take i) fun m hm=>HIN m (List.mem_of_mem_take hm)
 generalize errV N=ev at *;generalize zAs N=ft at *;obtain ⟨xkind,xA,xB,xC,xK,xS,xT,xcp,xcc,xch,xsp,xsc,xspn⟩:=x;unfold Ac.v;dsimp only at *;clear hs hI;intro S W w L0 hO;simp only [CA] at hO;(replace hf:=fa_ hO);go_enter Tryz.func54,Tryz.ntmps54;go_wp2_with (first|(go_at_call 96;(with_reducible apply Does.use hO (HC);exact tk_;refine du_ ?_;clear hO hf;intro x9 w9 hO hf;(obtain ⟨za,zc⟩:=x9;dsimp only at hO ⊢;(replace hf:=fa_ hO))))|(refine sq_ ?_;clear hO hf;intro w9 hO hf));go_loopw [15,16] (fun v15 v16 wr=>∃i:Nat,v15=.string (zD9 (O.take i))∧v16=.int .i64 (i:Int)∧i≤O.length∧Own S W wr (Row2 92 4 za O.length zc (O.flatMap msC)::ViewR q p since C R'::VerR p nn V::.imm φ::L0)) (fun _ v16 _=>O.length-(intOf v16).toNat)
 case atStart=>exact ⟨0,rfl,rfl,by omega,hO.cut sb_⟩
 case round=>
  clear hO;obtain ⟨i,rfl,rfl,hi,hO⟩:=hrel;rename World=>w1
  (replace hf:=fa_ hO);by_cases hlt:i<O.length
  ·obtain ⟨b9,o9,rfl⟩:=zS9 (rowV (hO.factOf (r:=Row2 92 4 za O.length zc (O.flatMap msC)) pk_)) hlt;have hca:=fun w (h:ValsAt w (some ⟨b9,o9,none⟩) (O.flatMap msC))=>zRq h hlt
   have h0:=hca _ (rowV (hO.factOf (r:=Row2 92 4 (some ⟨b9,o9,none⟩) O.length zc (O.flatMap msC)) pk_));specialize HM i hlt;have hmz:=HMZ i hlt;have hpz:=HPZ i;rw [List.length_take] at hpz;clear HMZ HPZ HIN;have hT:=Lib.hid (zIx O hlt);generalize msT O[i]=mt at *;generalize O[i]=m at *;obtain ⟨m1,m2,m3,m4⟩:=m;unfold Ms.v at HM;dsimp only at HM h0;generalize zD9 (O.take i)=pre at *;go_wp2_with (first|(go_at_call 130;(with_reducible refine Own.quiet hO (HM _) (ru_ ?_);clear hO;(try clear hf);intro w9 hO hf))|(refine sq_ ?_;clear hO;(try clear hf);intro w9 hO hf));all_goals try (exfalso;omega;done)
   exact ⟨⟨i+1,(by rw [hT.out]),by go_num,by omega,hO.cut sb_⟩,by simp [intOf];omega⟩
  ·obtain rfl:i=O.length:=by omega
   have hpz:=HPZ O.length;rw [List.take_length] at hpz;clear HMZ HPZ HIN;rw [List.take_length];obtain ⟨mt,hmt⟩:∃mt,zD9 O=mt:=⟨_,rfl⟩
   rw [hmt] at hpz ⊢;have hmt:=Lib.hid hmt;go_wp2_with (first|(go_at_call 129;(with_reducible refine Own.quiet hO (HF _) (ru_ ?_);clear hO;(try clear hf);intro w9 hO hf))|(refine sq_ ?_;clear hO;(try clear hf);intro w9 hO hf));all_goals try (exfalso;omega;done)
   go_ret;refine ⟨(),by rw [hmt.out];rfl,?_⟩;(try simp only [CA]);exact hO.cut sb_
theorem zQP (q p since nn:Nat) (V:List (ByteArray×List Vn)) (rows:List Rw) (hs:Seen V since rows) (C:List Ch) (R:List Sp) (hI:QInv C R) (x:Ac) (hxs:x.s.size≤120) (hxt:x.t.size≤100) {φ:World→Prop} (hφ:∀w,φ w→LibOk w) (hsp:∀w,φ w→SpansAt w x.sp x.spn∧x.spn.length≤maxLen) (k0:(x.kind.toList==[99,114,101,97,116,101])=false) (k1:(x.kind.toList==[115,101,110,100])=false) (k2:(x.kind.toList==[114,101,99,101,105,118,101])=false) (k3:(x.kind.toList==[97,99,107])=false) (k4:(x.kind.toList==[119,97,105,116])=false) (k5:(x.kind.toList==[112,117,116])=false) (k6:(x.kind.toList==[100,101,108,101,116,101])=false) (k7:(x.kind.toList==[103,101,116])=false) (k8:(x.kind.toList==[109,101,115,115,97,103,101,115])=false) :
 Does Tryz.prog 54 #[.pointer (some ⟨q,0,none⟩),x.v] [ViewR q p since C R,VerR p nn V,.imm φ] (fun _:Unit=>(.string (zC1 (scnO (inR x.span.lo x.span.hi (C.foldl appR rows)) R x.span.lo x.span.hi x.a)++zAs (scnN (inR x.span.lo x.span.hi (C.foldl appR rows)) R x.span.lo x.span.hi x.a)),[ViewR q p since C (scnB (inR x.span.lo x.span.hi (C.foldl appR rows)) R x.span.lo x.span.hi x.a),VerR p nn V,.imm φ])):=by
 have hc12:=hI.c12;have hr40:=hI.r40;have hrl:=hs.qr.len;have HSC:=zCm q p since nn V C R x.span.lo x.span.hi x.a _ (hs.scan C _ _) hs.nd (by omega) (by omega) hs.vl hs.v1 (zFA hs.qr hI _ _);have HF:=fun w=>zCP (scnN (inR x.span.lo x.span.hi (C.foldl appR rows)) R x.span.lo x.span.hi x.a) w (zG5 _ _ _ _ _)
 have hfz:=zBl (scnN (inR x.span.lo x.span.hi (C.foldl appR rows)) R x.span.lo x.span.hi x.a) (zG5 _ _ _ _ _);have HLN:=zRW (inR x.span.lo x.span.hi (C.foldl appR rows)) R x.span.lo x.span.hi x.a;have HLR:=zSl rows C x.span.lo x.span.hi;have HIN:=zQb hs.qr hI x.span.lo x.span.hi R x.a;generalize inR x.span.lo x.span.hi (C.foldl appR rows)=L at *;generalize scnO L R x.span.lo x.span.hi x.a=O at *;generalize scnN L R x.span.lo x.span.hi x.a=N at *;generalize scnB L R x.span.lo x.span.hi x.a=R' at *;have HOL:O.length≤100000:=by omega
 have HPZ:=fun (i:Nat)=>zPZ (l:=O.take i) fun m hm=>HIN m (List.mem_of_mem_take hm)
 clear HLN HLR;generalize errV N=ev at *;generalize zAs N=ft at *;obtain ⟨xkind,xA,xB,xC,xK,xS,xT,xcp,xcc,xch,xsp,xsc,xspn⟩:=x;unfold Ac.v;unfold Ac.span at *;dsimp only at *;clear hs hI;cases xspn with
 | nil=>
  dsimp only [List.headD] at HSC;intro S W w L0 hO;simp only [CA] at hO;(replace hf:=fa_ hO);go_enter Tryz.func54,Tryz.ntmps54;go_wp2_with (first|(go_at_call 56;(with_reducible apply Does.use hO (HSC);exact tk_;refine du_ ?_;clear hO hf;intro x9 w9 hO hf;(obtain ⟨za,zc⟩:=x9;dsimp only at hO ⊢;(replace hf:=fa_ hO))))|(refine sq_ ?_;clear hO hf;intro w9 hO hf));go_loopw [20,21] (fun v20 v21 wr=>∃i:Nat,v20=.string (zC1 (O.take i))∧v21=.int .i64 (i:Int)∧i≤O.length∧Own S W wr (Row2 177 2 za O.length zc (O.flatMap rwC)::ViewR q p since C R'::VerR p nn V::.imm φ::L0)) (fun _ v21 _=>O.length-(intOf v21).toNat)
  case atStart=>exact ⟨0,rfl,rfl,by omega,hO.cut sb_⟩
  case round=>
   clear hO;obtain ⟨i,rfl,rfl,hi,hO⟩:=hrel;rename World=>w1
   (replace hf:=fa_ hO);by_cases hlt:i<O.length
   ·obtain ⟨b9,o9,rfl⟩:=zDT (rowV (hO.factOf (r:=Row2 177 2 za O.length zc (O.flatMap rwC)) pk_)) hlt;have hca:=fun w (h:ValsAt w (some ⟨b9,o9,none⟩) (O.flatMap rwC))=>zCO h hlt
    have hT:=Lib.hid (zFi O hlt);have hmz:=HIN _ (List.getElem_mem hlt);have hpz:=HPZ i;rw [List.length_take] at hpz;clear HPZ HIN;generalize O[i]=r at *;obtain ⟨r1,r2⟩:=r;dsimp only at hca hT hmz;generalize zC1 (O.take i)=pre at *;go_wp2_with (refine sq_ ?_;clear hO;(try clear hf);intro w9 hO hf);(refine rg_ hO ((0,0)::(0,1)::(0,2)::(0,3)::(0,4)::(1,5)::(0,6)::(0,7)::(0,8)::(0,9)::(0,10)::(0,11)::(1,12)::(0,13)::(0,14)::(0,15)::[]) ?_;clear hO;intro w9 hO;replace hf:=fa_ hO;(repeat (first|(apply zAG _ rfl rfl rfl;focus (intro w8 K8 hK8;(repeat (first | go_skip | go_guarded | go_step));exact hK8))|(apply zAJ _ rfl rfl rfl;focus (intro w8 hx8 K8 hK8;have hO:=hO.ext hx8;(replace hf:=fa_ hO);have h0:=hca _ (rowV (hO.factOf (r:=Row2 177 2 (some ⟨b9,o9,none⟩) O.length zc (O.flatMap rwC)) pk_));(repeat (first | go_skip | go_guarded | go_step));exact hK8))|(apply zAL _ rfl;(focus (intro w8 hx8 K8 hK8;have hO:=hO.ext hx8;(replace hf:=fa_ hO);(repeat (first | go_skip | go_guarded | go_step | fail));(first | exact xt_ | exact hK8 _ xt_)));(focus (exact rfl));intro w8 hx8;replace hO:=hO.ext hx8;clear hx8;(replace hf:=fa_ hO)))));refine zAA ?_;go_wp2_with (refine sq_ ?_;clear hO hf;intro w9 hO hf);all_goals try (exfalso;omega;done)
    exact ⟨⟨i+1,(by rw [hT.out]),by go_num,by omega,hO.cut sb_⟩,by simp [intOf];omega⟩
   ·obtain rfl:i=O.length:=by omega
    have hpz:=HPZ O.length;rw [List.take_length] at hpz;clear HPZ HIN;rw [List.take_length];obtain ⟨mt,hmt⟩:∃mt,zC1 O=mt:=⟨_,rfl⟩
    rw [hmt] at hpz ⊢;have hmt:=Lib.hid hmt;go_wp2_with (first|(go_at_call 129;(with_reducible refine Own.quiet hO (HF _) (ru_ ?_);clear hO;(try clear hf);intro w9 hO hf))|(refine sq_ ?_;clear hO;(try clear hf);intro w9 hO hf));all_goals try (exfalso;omega;done)
    go_ret;refine ⟨(),by rw [hmt.out];rfl,?_⟩;(try simp only [CA]);exact hO.cut sb_
 | cons y ys=>
  obtain ⟨ylo,yhi⟩:=y;dsimp only [List.headD] at HSC;intro S W w L0 hO;simp only [CA] at hO;rcases (hsp _ (Own.immOf (φ:=φ) hO pk_)).1 with h0 | ⟨b3,o3,rfl,_⟩
  ·cases h0
  have hsp0:=fun w (h:φ w)=>show w.cell? ⟨b3,o3+0*2,none⟩=some (.string ylo)∧w.cell? ⟨b3,o3+0*2+1,none⟩=some (.string yhi) from by
   rcases (hsp w h).1 with h0 | ⟨b',off',he,hc⟩
   ·cases h0
   ·simp only [Option.some.injEq,Addr.mk.injEq,and_true] at he;obtain ⟨rfl,rfl⟩:=he;exact hc 0 (by simp)
  simp only [Nat.zero_mul,Nat.add_zero] at hsp0;have hO:=(hO.pick (r:=.imm φ) pk_).again.imp (ψ:=fun w=>w.cell? ⟨b3,o3,none⟩=some (.string ylo)∧w.cell? ⟨b3,o3+1,none⟩=some (.string yhi)) fun w h=>hsp0 w h
  have hle:ys.length+1≤9223372036854775807:=by
   have:=(hsp _ (Own.immOf (φ:=φ) hO pk_)).2;unfold maxLen at this;simp only [List.length_cons] at this;omega
  clear hsp0 hsp;simp only [List.length_cons] at hO ⊢;generalize ys.length=yn at *;(replace hf:=fa_ hO);go_enter Tryz.func54,Tryz.ntmps54;go_wp2_with (first|(go_at_call 56;(with_reducible apply Does.use hO (HSC);exact tk_;refine du_ ?_;clear hO hf;intro x9 w9 hO hf;(obtain ⟨za,zc⟩:=x9;dsimp only at hO ⊢;(replace hf:=fa_ hO))))|(refine sq_ ?_;clear hO hf;intro w9 hO hf));go_loopw [20,21] (fun v20 v21 wr=>∃i:Nat,v20=.string (zC1 (O.take i))∧v21=.int .i64 (i:Int)∧i≤O.length∧Own S W wr (Row2 177 2 za O.length zc (O.flatMap rwC)::ViewR q p since C R'::VerR p nn V::.imm φ::L0)) (fun _ v21 _=>O.length-(intOf v21).toNat)
  case atStart=>exact ⟨0,rfl,rfl,by omega,hO.cut sb_⟩
  case round=>
   clear hO;obtain ⟨i,rfl,rfl,hi,hO⟩:=hrel;rename World=>w1
   (replace hf:=fa_ hO);by_cases hlt:i<O.length
   ·obtain ⟨b9,o9,rfl⟩:=zDT (rowV (hO.factOf (r:=Row2 177 2 za O.length zc (O.flatMap rwC)) pk_)) hlt;have hca:=fun w (h:ValsAt w (some ⟨b9,o9,none⟩) (O.flatMap rwC))=>zCO h hlt
    have hT:=Lib.hid (zFi O hlt);have hmz:=HIN _ (List.getElem_mem hlt);have hpz:=HPZ i;rw [List.length_take] at hpz;clear HPZ HIN;generalize O[i]=r at *;obtain ⟨r1,r2⟩:=r;dsimp only at hca hT hmz;generalize zC1 (O.take i)=pre at *;go_wp2_with (refine sq_ ?_;clear hO;(try clear hf);intro w9 hO hf);(refine rg_ hO ((0,0)::(0,1)::(0,2)::(0,3)::(0,4)::(1,5)::(0,6)::(0,7)::(0,8)::(0,9)::(0,10)::(0,11)::(1,12)::(0,13)::(0,14)::(0,15)::[]) ?_;clear hO;intro w9 hO;replace hf:=fa_ hO;(repeat (first|(apply zAG _ rfl rfl rfl;focus (intro w8 K8 hK8;(repeat (first | go_skip | go_guarded | go_step));exact hK8))|(apply zAJ _ rfl rfl rfl;focus (intro w8 hx8 K8 hK8;have hO:=hO.ext hx8;(replace hf:=fa_ hO);have h0:=hca _ (rowV (hO.factOf (r:=Row2 177 2 (some ⟨b9,o9,none⟩) O.length zc (O.flatMap rwC)) pk_));(repeat (first | go_skip | go_guarded | go_step));exact hK8))|(apply zAL _ rfl;(focus (intro w8 hx8 K8 hK8;have hO:=hO.ext hx8;(replace hf:=fa_ hO);(repeat (first | go_skip | go_guarded | go_step | fail));(first | exact xt_ | exact hK8 _ xt_)));(focus (exact rfl));intro w8 hx8;replace hO:=hO.ext hx8;clear hx8;(replace hf:=fa_ hO)))));refine zAA ?_;go_wp2_with (refine sq_ ?_;clear hO hf;intro w9 hO hf);all_goals try (exfalso;omega;done)
    exact ⟨⟨i+1,(by rw [hT.out]),by go_num,by omega,hO.cut sb_⟩,by simp [intOf];omega⟩
   ·obtain rfl:i=O.length:=by omega
    have hpz:=HPZ O.length;rw [List.take_length] at hpz;clear HPZ HIN;rw [List.take_length];obtain ⟨mt,hmt⟩:∃mt,zC1 O=mt:=⟨_,rfl⟩
    rw [hmt] at hpz ⊢;have hmt:=Lib.hid hmt;go_wp2_with (first|(go_at_call 129;(with_reducible refine Own.quiet hO (HF _) (ru_ ?_);clear hO;(try clear hf);intro w9 hO hf))|(refine sq_ ?_;clear hO;(try clear hf);intro w9 hO hf));all_goals try (exfalso;omega;done)
    go_ret;refine ⟨(),by rw [hmt.out];rfl,?_⟩;(try simp only [CA]);exact hO.cut sb_
theorem zPr (q p since nn:Nat) (V:List (ByteArray×List Vn)) (rows:List Rw) (hs:Seen V since rows) (C:List Ch) (R:List Sp) (hI:QInv C R) (x:Ac) (hxs:x.s.size≤120) (hxt:x.t.size≤100) {φ:World→Prop} (hφ:∀w,φ w→LibOk w) (hsp:∀w,φ w→SpansAt w x.sp x.spn∧x.spn.length≤maxLen) (res:Ms×Nat×List Ch×List Sp) (hr:zCx rows C R x res) :
 Does Tryz.prog 54 #[.pointer (some ⟨q,0,none⟩),x.v] [ViewR q p since C R,VerR p nn V,.imm φ] (fun _:Unit=>(.string (zAd rows C R x res).1,[ViewR q p since (zAd rows C R x res).2.1 (zAd rows C R x res).2.2,VerR p nn V,.imm φ])):=by
 unfold zAd;cases k0:(x.kind.toList==[99,114,101,97,116,101]) with
 | true=>
  exact zN4 q p since nn V rows hs C R hI x hxs hxt hφ k0
 | false=>
  cases k1:(x.kind.toList==[115,101,110,100]) with
  | true=>
   exact zQT q p since nn V rows hs C R hI x hxs hxt hφ k0 k1
  | false=>
   cases k2:(x.kind.toList==[114,101,99,101,105,118,101]) with
   | true=>
    exact zLf q p since nn V rows hs C R hI x hxs hxt hφ res hr.1 k0 k1 k2
   | false=>
    cases k3:(x.kind.toList==[97,99,107]) with
    | true=>
     exact zSL q p since nn V rows hs C R hI x hxs hxt hφ k0 k1 k2 k3
    | false=>
     cases k4:(x.kind.toList==[119,97,105,116]) with
     | true=>
      exact zQv q p since nn V rows hs C R hI x hxs hxt hφ k0 k1 k2 k3 k4
     | false=>
      cases k5:(x.kind.toList==[112,117,116]) with
      | true=>
       exact zRY q p since nn V rows hs C R hI x hxs hxt hφ k0 k1 k2 k3 k4 k5
      | false=>
       cases k6:(x.kind.toList==[100,101,108,101,116,101]) with
       | true=>
        exact zNQ q p since nn V rows hs C R hI x hxs hxt hφ k0 k1 k2 k3 k4 k5 k6
       | false=>
        cases k7:(x.kind.toList==[103,101,116]) with
        | true=>
         exact zR0 q p since nn V rows hs C R hI x hxs hxt hφ k0 k1 k2 k3 k4 k5 k6 k7
        | false=>
         cases k8:(x.kind.toList==[109,101,115,115,97,103,101,115]) with
         | true=>
          exact zLB q p since nn V rows hs C R hI x hxs hxt hφ k0 k1 k2 k3 k4 k5 k6 k7 k8
         | false=>
          exact zQP q p since nn V rows hs C R hI x hxs hxt hφ hsp k0 k1 k2 k3 k4 k5 k6 k7 k8
