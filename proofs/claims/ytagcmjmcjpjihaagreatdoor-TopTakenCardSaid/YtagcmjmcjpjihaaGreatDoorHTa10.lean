/- Texts TkL, EnQ of this claim, laid together. -/
import Derived.Test.YtagcmjmcjpjihaaGreatDoorHC39
import Derived.Test.YtagcmjmcjpjihaaGreatDoorHTa9
set_option linter.unusedVariables false
set_option linter.unusedSimpArgs false
namespace Go.Proofs.YtagcmjmcjpjihaaGreatDoor
open Go.RowKit
def fM (i:Nat):Ms:=⟨i,0,0,⟨#[120]⟩⟩
def uM (n:Nat):Qu:=⟨n,9,⟨#[]⟩⟩
def zT6 (k many:Nat):List Rw:=msL fM k many++[uR qN (uM many)]
theorem zUh (i:Nat):¬(fM i).bad:=by unfold Ms.bad fM;dsimp only;rw [show (⟨#[120]⟩:ByteArray).size=1 from rfl];omega
theorem zUD {k many:Nat} (h:many≤5):(zT6 k many).length≤6:=by
 unfold zT6 msL;rw [List.length_append,List.length_map,List.length_range',List.length_singleton];omega
theorem zUX {n:Nat} (h:n≤5):(uM n).ok:=u_ok (by omega) (by omega)
theorem zVi (n:Nat):(uM n).up=uM (n+1):=by unfold Qu.up uM;simp
def kM (many:Nat):List ByteArray:=queB qN::(List.range many).map (msgB qN)
theorem zU3 {many:Nat} (h:many≤5):(kM many).length≤12:=by unfold kM;simp;omega
theorem kM_q (many:Nat):queB qN∈kM many:=List.mem_cons_self ..
theorem kM_m {i many:Nat} (h:i<many):msgB qN i∈kM many:=List.mem_cons_of_mem _ (List.mem_map.2 ⟨i,List.mem_range.2 h,rfl⟩)
theorem zVV (many:Nat) (h:many≤5):∃C1 R1,zAq (valR []) [] [] qN 9 ⟨#[]⟩=(0,C1,R1)∧Deed [] (kM many) (msL fM 0 0++[uR qN (uM 0)]) 1 C1 R1:=by
 obtain ⟨C1,R1,e1,d1⟩:=zUx 9 (by omega) (kM_q many) (zU3 h);exact ⟨C1,R1,e1,by rw [zUI (Nat.le_refl _)];exact d1⟩
theorem zVe {many i r:Nat} {C:List Ch} {R:List Sp} (h5:many≤5) (hi:i<many) (hr:r<40) (h:Deed [] (kM many) (zT6 0 i) r C R) :
 ∃C',zBa (valR [] (queB qN)) C R qN ⟨#[120]⟩ 0=((i:Int),0,C')∧Deed [] (kM many) (zT6 0 (i+1)) (r+1) C' (zAI C R qN):=by
 obtain ⟨C',e,d⟩:=Deed.sends (f:=fM) (n:=i) (u:=uM i) (body:=⟨#[120]⟩) QRows.nil (zUX (by omega)) rfl (by omega) (by decide) h (kM_q many) (kM_m hi) (zU3 h5) hr;refine ⟨C',e,?_⟩;rw [zVi] at d;unfold zT6;rw [zUa (f:=fM) (g:=fun j=>if j=i then ⟨i,0,0,⟨#[120]⟩⟩ else fM j) fun j _ _=>by
  by_cases e:j=i
  ·rw [if_pos e,e];rfl
  ·rw [if_neg e]]
 exact d
theorem Deed.not_nil {K:List ByteArray} {D:List Rw} {r:Nat} {C:List Ch} {R:List Sp} (h:Deed [] K D r C R) (hD:D≠[]):C≠[]:=fun e=>hD (by rw [←h.see,e];rfl)
theorem zVP (k many:Nat):zT6 k many≠[]:=by unfold zT6;simp
theorem QInv.fits {C:List Ch} {R:List Sp} (h:QInv C R) {rows:List Rw} {m:Nat} (h1:(C.foldl appR rows).length≤40) (hm:13≤m):zAl rows C m=0:=by
 have h12:=h.c12;have hf:zBW C=0:=zD4.2 fun x hx=>zDy.1 (h.good x hx)
 unfold zAl;rw [if_neg (by omega),if_neg (by omega),if_neg (by omega),if_neg (by omega)]
def zT7 (n:Nat):Ch:=⟨msgB qN n,⟨#[]⟩,true⟩
theorem zUy {c d:Ch} (h:c.key=d.key) (hd:chN d=0):putN [c] d=0∧putL [c] d=[d]:=by
 have e:putC [c] d=[d]:=by
  unfold putC low high;rw [List.filter_cons,List.filter_cons,h,zBw];rfl
 have h0:putN [c] d=0:=by unfold putN;rw [if_neg (by omega),if_neg (by rw [e];simp)]
 exact ⟨h0,by unfold putL;rw [if_pos h0,e]⟩
theorem zVN {d:Ch} (hd:chN d=0):putN [] d=0∧putL [] d=[d]:=by
 have e:putC [] d=[d]:=rfl;have h0:putN [] d=0:=by unfold putN;rw [if_neg (by omega),if_neg (by rw [e];simp)]
 exact ⟨h0,by unfold putL;rw [if_pos h0,e]⟩
theorem zUS {k many:Nat} (h:k<many):zT6 k many=mR qN k (fM k)::zT6 (k+1) many:=by
 unfold zT6;rw [zUL h];rfl
theorem zU9 {k many:Nat} (h5:many≤5):RUps (zT6 k many):=by
 suffices h:∀d k,many-k=d→RUps (zT6 k many) from h _ k rfl
 intro d
 induction d with
 | zero=>
  intro k hk;unfold zT6;rw [zUI (by omega)];exact List.pairwise_singleton _ _
 | succ d ih=>
  intro k hk;rw [zUS (by omega)];refine List.pairwise_cons.2 ⟨fun r hr=>?_,ih (k+1) (by omega)⟩;unfold zT6 at hr;rcases List.mem_append.1 hr with h | h
  ·obtain ⟨i,h1,h2,rfl⟩:=zUA h;show slt (msgB qN k) (msgB qN i)=true;rw [zJg qN k i (by omega) (by omega)];exact decide_eq_true (by omega)
  ·rw [List.mem_singleton.1 h];exact zT9 qN qN k
theorem zUu {k many:Nat} (h5:many≤5):QRows (zT6 k many):=⟨zU9 h5,fun r hr=>by
 unfold zT6 at hr;rcases List.mem_append.1 hr with h | h
 ·obtain ⟨i,h1,h2,rfl⟩:=zUA h;exact ⟨zUB zT8 (by omega),Ms.txt40 (zUh i)⟩
 ·rw [List.mem_singleton.1 h];exact ⟨zUR zT8,Qu.txt40 (zUX h5)⟩,by have:=zUD (k:=k) h5;omega⟩
theorem zUM {k many:Nat} (h5:many≤5):inR (loB qN) (hiB qN) (zT6 k many)=msL fM k many:=by
 have h1:inR (loB qN) (hiB qN) (msL fM k many)=msL fM k many:=List.filter_eq_self.2 fun x hx=>by
  obtain ⟨i,h0,hi,rfl⟩:=zUA hx;exact zU2 i
 have h3:=zU8 (loB qN) (uM many);unfold zT6 inR at *;rw [List.filter_append,h1,h3,List.append_nil]
theorem zUG (k many:Nat):valR (zT6 k many) (queB qN)=((uM many).txt.1,true):=zUt (ZQ.one _)
theorem zUT {k many:Nat} (h:k<many) (h5:many≤5):appR (zT6 k many) (zT7 k)=zT6 (k+1) many:=by
 have hu:=zUS h;rw [hu];refine zVS (A:=[]) (r:=mR qN k (fM k)) rfl (fun _ h=>(List.not_mem_nil h).elim) rfl fun z hz=>?_
 unfold zT6 at hz;rcases List.mem_append.1 hz with h | h
 ·obtain ⟨i,h1,h2,rfl⟩:=zUA h;show slt (msgB qN k) (msgB qN i)=true;rw [zJg qN k i (by omega) (by omega)];exact decide_eq_true (by omega)
 ·rw [List.mem_singleton.1 h];exact zT9 qN qN k
theorem zVh {k many:Nat} (h5:many≤5) (h:k<many):∃C R R',RecvAns (zT6 k many) [] [] qN 0 0 ((fM k).more 0,0,C,R)∧QInv C R∧ackA (valR (zT6 k many)) C R qN k 1=(0,[zT7 k])∧R'=zBK (valR (zT6 k many)) C R qN k 1∧QInv [zT7 k] R'∧(R'.any fun r=>r.has (msgB qN k))=true:=by
 have hr:=zUu (k:=k) h5;have hk6:k<1000000:=by omega
 have h0:=Deed.start (zT6 k many) [msgB qN k];have h1:=h0.find_reads qN;obtain ⟨s1,s2⟩:=h1.scn (⟨msgB qN k,(fM k).txt.1⟩::msL fM (k+1) many) (loB qN) (hiB qN) (by omega);have hL:inR (loB qN) (hiB qN) (([]:List Ch).foldl appR (zT6 k many))=⟨msgB qN k,(fM k).txt.1⟩::msL fM (k+1) many:=by
  rw [List.foldl_nil,zUM h5,zUL h];rfl
 have hp:msOf k (fM k).txt.1=(fM k,0):=zUk (zUh k);have hmb2:¬((fM k).more 0).bad:=by unfold Ms.bad Ms.more fM;dsimp only;rw [show (⟨#[120]⟩:ByteArray).size=1 from rfl];omega
 have hc0:chN ⟨msgB qN k,((fM k).more 0).txt.1,false⟩=0:=zJf (zUB zT8 hk6) (Ms.txt40 hmb2);obtain ⟨p1,p2⟩:=zVN hc0;have e1:setN [] qN ((fM k).more 0)=0:=by
  unfold setN;rw [if_neg (by rw [Ms.txt_ok hmb2];simp)];exact p1
 have e2:setL [] qN ((fM k).more 0)=[⟨msgB qN k,((fM k).more 0).txt.1,false⟩]:=by
  unfold setL;rw [if_neg (by rw [Ms.txt_ok hmb2];simp)];exact p2
 obtain ⟨q1,q2⟩:=s2.set hr zT8 hmb2 (show ((fM k).more 0).num=k from rfl) hk6 (List.mem_singleton.2 rfl) (by simp);obtain ⟨R,hR⟩:∃R,R=scnB (⟨msgB qN k,(fM k).txt.1⟩::msL fM (k+1) many) (zAI [] [] qN) (loB qN) (hiB qN) 1:=⟨_,rfl⟩
 have hrec:Recv (zT6 k many) qN (uM many) 0 0 [] (zAI [] [] qN) (loB qN) ((fM k).more 0,0,[⟨msgB qN k,((fM k).more 0).txt.1,false⟩],R):=by
  refine .take hL s1 hk6 (Ms.txt40 (zUh k)) (by rw [hp]) (by rw [hp];unfold fM;dsimp only;omega) (by rw [hp];unfold fM uM;dsimp only;omega) ?_;rw [hp,hR];dsimp only;rw [show (0:Int)+0=0 from rfl,e1,e2]
 have ha:=h0.receive hr zT8 (zUG k many) (zUX h5) (by omega) (by omega) (by omega) hrec;rw [e2] at q2;rw [←hR] at q2;have hv2:valR (appR (zT6 k many) ⟨msgB qN k,((fM k).more 0).txt.1,false⟩) (queB qN)=((uM many).txt.1,true):=by
  rw [zLp hr.ups,if_neg (zBr (zT9 qN qN k))];exact zUG k many
 have hm2:valR (appR (zT6 k many) ⟨msgB qN k,((fM k).more 0).txt.1,false⟩) (msgB qN k)=(((fM k).more 0).txt.1,true):=by
  rw [zLp hr.ups,if_pos rfl];rfl
 have hmine:=q2.mine_yes (tries:=1) hr zT8 hv2 (zUX h5) hm2 hmb2 (show ((fM k).more 0).num=k from rfl) hk6 (by unfold Ms.more fM;rfl) (by omega) (by omega);obtain ⟨g1,g2⟩:=zUy (c:=⟨msgB qN k,((fM k).more 0).txt.1,false⟩) (d:=zT7 k) rfl (zUr (zUB zT8 hk6));have hack:ackA (valR (zT6 k many)) [⟨msgB qN k,((fM k).more 0).txt.1,false⟩] R qN k 1=(0,[zT7 k]):=by
  unfold ackA;rw [hmine];dsimp only;rw [if_neg (by simp),show ((k:Nat):Int).toNat=k from rfl];exact Prod.ext g1 g2
 have hQ2:=((q2.mine_reads (valR (zT6 k many)) qN k 1).inv.put (zT7 k))
 rw [g2] at hQ2;refine ⟨_,R,_,ha,q2.inv,hack,rfl,hQ2,?_⟩;rw [List.any_eq_true];have hn:zAY (zAI [] [] qN) (scnS (⟨msgB qN k,(fM k).txt.1⟩::msL fM (k+1) many) (loB qN) (hiB qN) 1)=0:=zI3 _ (by have:=h1.read;omega);refine ⟨scnS (⟨msgB qN k,(fM k).txt.1⟩::msL fM (k+1) many) (loB qN) (hiB qN) 1,?_,?_⟩
 ·refine zGY _ _ _ _ _ _ _ (zCv _ _ _ _ ?_);rw [hR];unfold scnB;rw [if_neg (by omega)];exact zMj hn
 ·rw [show (1:Int)=((1:Nat):Int) from rfl,zOd (Nat.le_refl 1) (by simp),zNF,zEq,zU2];simp only [Nat.sub_self,List.getElem_cons_zero,Bool.true_and];rw [zM8,zBw];rfl
theorem zVg {k many:Nat} (h5:many≤5) (h:many≤k):∃R,RecvAns (zT6 k many) [] [] qN 0 0 (Ms.z,12,[],R)∧QInv [] R:=by
 have hr:=zUu (k:=k) h5;have h0:=Deed.start (zT6 k many) [];obtain ⟨R4,e4,d4⟩:=(h0.find_reads qN).recv_empty (name:=qN) (lo:=loB qN) (u:=uM many) (now:=0) (long:=0) (by rw [zUM h5,zUI h]) (by omega);exact ⟨R4,h0.receive_no hr zT8 (zUG k many) (zUX h5) (by omega) (by omega) (by omega) e4 (by simp),d4.inv⟩
theorem zUv {m B:Nat} {c:Core} (H:CoreOk m B c) (R:List Sp):zBY c.keys R c.nn=true:=by
 unfold zBY;rw [List.drop_eq_nil_of_le (by rw [H.kl];omega)];rfl
structure Tk (many:Nat) (c:Core) (D:Nat→Option (Nat×Dv)) (M:Nat→Int):Prop where
 n1:1≤c.nn
 n2:c.nn≤many+1
 rows:∀n,1≤n→n≤c.nn→c.at n=zT6 (n-1) many
 keys:∀n,2≤n→n≤c.nn→c.keys[n]?=some [msgB qN (n-2)]
 deeds:∀i<4,∀x,D i=some x→DeedOk c x.2∧1≤x.2.since∧
  ((x.2.since-1<many∧M i=((x.2.since-1:Nat):Int)∧x.2.C=[zT7 (x.2.since-1)]∧(x.2.R.any fun r=>r.has (msgB qN (x.2.since-1)))=true)∨(M i=-1∧x.2.C=[]))
def setI (M:Nat→Int) (s:Nat) (b:Int):Nat→Int:=fun i=>if i=s then b else M i
variable {many:Nat} {c:Core} {D:Nat→Option (Nat×Dv)} {M:Nat→Int} {m B:Nat}
theorem Tk.off (h:Tk many c D M) (s:Nat):Tk many c (setF D s none) M:=
 ⟨h.n1,h.n2,h.rows,h.keys,fun i hi x hx=>by
  rcases zA1 hx with ⟨rfl,h1⟩ | ⟨h0,h1⟩
  ·cases h1
  ·exact h.deeds i hi x h1⟩
theorem Tk.took (h:Tk many c D M) (H:CoreOk m B c) {R:List Sp} (hk:c.nn-1<many) (hq:QInv [zT7 (c.nn-1)] R) (hR:(R.any fun r=>r.has (msgB qN (c.nn-1)))=true) (s q:Nat) :
 Tk many c (setF D s (some (q,⟨c.nn,[zT7 (c.nn-1)],R⟩))) (setI M s ((c.nn-1:Nat):Int)):=
 ⟨h.n1,h.n2,h.rows,h.keys,fun i hi x hx=>by
  unfold setI;rcases zA1 hx with ⟨rfl,h1⟩ | ⟨h0,h1⟩
  ·cases h1;rw [if_pos rfl];exact ⟨⟨H.ps.le,H.kn,Nat.le_refl _,hq⟩,h.n1,.inl ⟨hk,rfl,rfl,hR⟩⟩
  ·rw [if_neg h0];exact h.deeds i hi x h1⟩
theorem Tk.none (h:Tk many c D M) (H:CoreOk m B c) {R:List Sp} (hq:QInv [] R) (s q:Nat) :
 Tk many c (setF D s (some (q,⟨c.nn,[],R⟩))) (setI M s (-1)):=
 ⟨h.n1,h.n2,h.rows,h.keys,fun i hi x hx=>by
  unfold setI;rcases zA1 hx with ⟨rfl,h1⟩ | ⟨h0,h1⟩
  ·cases h1;rw [if_pos rfl];exact ⟨⟨H.ps.le,H.kn,Nat.le_refl _,hq⟩,h.n1,.inr ⟨rfl,rfl⟩⟩
  ·rw [if_neg h0];exact h.deeds i hi x h1⟩
theorem Tk.clear (h:Tk many c D M) (H:CoreOk m B c) {x:Dv} (hx:DeedOk c x) (h1:1≤x.since) (hR:(x.R.any fun r=>r.has (msgB qN (x.since-1)))=true) (hc:zBY c.keys x.R x.since=true):x.since=c.nn:=by
 have hle:=hx.le;by_cases he:x.since=c.nn
 ·exact he
 exfalso;have hk:=h.keys (x.since+1) (by omega) (by omega);obtain ⟨h5,h6⟩:=List.getElem?_eq_some_iff.1 hk;unfold zBY at hc;have h7:=List.all_eq_true.1 (List.all_eq_true.1 hc [msgB qN (x.since+1-2)] (by
  rw [List.mem_drop_iff_getElem];exact ⟨0,by omega,by simpa using h6⟩)) _ (List.mem_singleton.2 rfl)
 rw [show x.since+1-2=x.since-1 from by omega,hR] at h7;cases h7
theorem Tk.fits (h:Tk many c D M) (h5:many≤5) (hk:c.nn-1<many) {m:Nat} (hm:13≤m):zAl (c.at c.nn) [zT7 (c.nn-1)] m=0:=by
 have hq:QInv [zT7 (c.nn-1)] []:=⟨List.pairwise_singleton _ _,by simp,by simp,fun x hx=>by rw [List.mem_singleton.1 hx];exact zUr (zUB zT8 (by omega))⟩
 refine hq.fits ?_ hm;rw [List.foldl_cons,List.foldl_nil,h.rows _ h.n1 (Nat.le_refl _),zUT hk h5];have:=zUD (k:=c.nn-1+1) h5;omega
theorem Tk.com (h:Tk many c D M) (H:CoreOk m B c) (h5:many≤5) (s:Nat) (hk:c.nn-1<many) {d:Dk} {hd:Hd} {R0:List Rw} {W0:List (List Ch)} {u t:Nat} (ht:t=zA5 (c.nn+1) (setF D s .none)) :
 Tk many (c.com [zT7 (c.nn-1)] d hd R0 W0 u t) (setF D s .none) M:=by
 have h1:=h.n1;refine ⟨Nat.succ_pos _,show c.nn+1≤many+1 by omega,fun n hn hn2=>?_,fun n hn hn2=>?_,fun i hi x hx=>?_⟩
 ·have hn3:n≤c.nn+1:=hn2;by_cases h9:n≤c.nn
  ·rw [H.comLe _ _ _ _ _ _ _ h9];exact h.rows n hn h9
  ·obtain rfl:n=c.nn+1:=by omega
   rw [H.comAt,h.rows _ h.n1 (Nat.le_refl _),List.foldl_cons,List.foldl_nil,zUT hk h5,show c.nn-1+1=c.nn+1-1 from by omega]
 ·have hn3:n≤c.nn+1:=hn2;show (c.keys++[zAm [zT7 (c.nn-1)]])[n]?=_;by_cases h9:n≤c.nn
  ·rw [List.getElem?_append_left (by rw [H.kl];omega)];exact h.keys n hn h9
  ·obtain rfl:n=c.nn+1:=by omega
   rw [List.getElem?_append_right (by rw [H.kl];omega),H.kl,Nat.sub_self];rfl
 ·obtain ⟨g1,g2⟩:=(h.off s).deeds i hi x hx;exact ⟨g1.com (by rw [ht];exact zGm _ _ hi hx),g2⟩
theorem Tk.start {c0:Core} (h5:many≤5) (H:CoreOk m B c0) (hn:c0.nn=0) (ha:c0.at 0=[]) {C:List Ch} {R:List Sp} {r:Nat} (hd:Deed [] (kM many) (zT6 0 many) r C R) (M:Nat→Int) {d:Dk} {hd':Hd} {R0:List Rw} {W0:List (List Ch)} {u t:Nat} {D:Nat→Option (Nat×Dv)} (hD:∀i<4,D i=.none) :
 Tk many (c0.com C d hd' R0 W0 u t) D M:=by
 have e:(c0.com C d hd' R0 W0 u t).nn=1:=by show c0.nn+1=1;omega
 refine ⟨by omega,by omega,fun n h1 h2=>?_,fun n h1 h2=>by omega,fun i hi x hx=>by rw [hD i hi] at hx;cases hx⟩;obtain rfl:n=1:=by omega
 have:=H.comAt C d hd' R0 W0 u t;rw [hn,ha,hd.see] at this;exact this
end Go.Proofs.YtagcmjmcjpjihaaGreatDoor
set_option linter.unnecessarySimpa false
namespace Go.Proofs.YtagcmjmcjpjihaaGreatDoor
open Go.RowKit Go.Lib
section
variable {e p m B:Nat} {c:Core} {D:Nat→Option (Nat×Dv)} {i:Nat} {x:Nat×Dv} {φ:World→Prop}
theorem zVE (H:CoreOk m B c) (hi:i<4) (hD:D i=some x) (hx:DeedOk c x.2) {name dead:ByteArray} {tries:Int} {C':List Ch} {R':List Sp} (hn:name.size≤200) (hd:dead.size≤200) (he:zAq (valR (c.at x.2.since)) x.2.C x.2.R name tries dead=(0,C',R')) (hφ:∀w,φ w→LibOk w) :
 Does Tryz.prog 47 #[.pointer (some ⟨x.1,0,none⟩),.string name,.int .i64 tries,.string dead] [EngR e p m c D,.imm φ] (fun _:Unit=>(.nilIface,[EngR e p m c (setF D i (some (x.1,⟨x.2.since,C',R'⟩))),.imm φ])):=
 zG0 hi hD (rs:=[.imm φ]) (val:=fun _=>.nilIface) (C:=fun _=>C') (R:=fun _=>R') (out:=fun _=>[.imm φ]) fun v=>by
  have hs:=H.sees hx.f hx.le;have h:=zMI x.1 v x.2.since c.nn c.V (valR (c.at x.2.since)) x.2.C x.2.R name tries dead hs.rd hs.val hx.q.val hn hd (by have:=hx.q.c12;omega) hx.q.ups hx.q.r40 hs.v6 hφ;rw [he] at h;exact h
theorem zVb (H:CoreOk m B c) (hi:i<4) (hD:D i=some x) (hx:DeedOk c x.2) {name body:ByteArray} {til n:Int} {C':List Ch} (hn:name.size≤200) (he:zBa (valR (c.at x.2.since) (queB name)) x.2.C x.2.R name body til=(n,0,C')) (hφ:∀w,φ w→LibOk w) :
 Does Tryz.prog 48 #[.pointer (some ⟨x.1,0,none⟩),.string name,.string body,.int .i64 til] [EngR e p m c D,.imm φ] (fun _:Unit=>(.tuple #[.int .i64 n,.nilIface],[EngR e p m c (setF D i (some (x.1,⟨x.2.since,C',zAI x.2.C x.2.R name⟩))),.imm φ])):=
 zG0 hi hD (rs:=[.imm φ]) (val:=fun _=>.tuple #[.int .i64 n,.nilIface]) (C:=fun _=>C') (R:=fun _=>zAI x.2.C x.2.R name) (out:=fun _=>[.imm φ]) fun v=>by
  have hs:=H.sees hx.f hx.le;have h:=zOy x.1 v x.2.since c.nn c.V x.2.C x.2.R name body til _ (hs.rd _) (hs.val _) hx.q.val hn (by have:=hx.q.c12;omega) hx.q.ups hx.q.r40 hs.v6 hφ;rw [he] at h;exact h
theorem zUz (H:CoreOk m B c) (hi:i<4) (hD:D i=some x) (hx:DeedOk c x.2) {name:ByteArray} {now long:Int} {res:Ms×Nat×List Ch×List Sp} (hn:name.size≤200) (he:RecvAns (c.at x.2.since) x.2.C x.2.R name now long res) (hφ:∀w,φ w→LibOk w) :
 Does Tryz.prog 49 #[.pointer (some ⟨x.1,0,none⟩),.string name,.int .i64 now,.int .i64 long] [EngR e p m c D,.imm φ] (fun _:Unit=>(.tuple #[res.1.v,errV res.2.1],[EngR e p m c (setF D i (some (x.1,⟨x.2.since,res.2.2.1,res.2.2.2⟩))),.imm φ])):=
 zG0 hi hD (rs:=[.imm φ]) (val:=fun _=>.tuple #[res.1.v,errV res.2.1]) (C:=fun _=>res.2.2.1) (R:=fun _=>res.2.2.2) (out:=fun _=>[.imm φ]) fun v=>
  zLD x.1 v x.2.since c.nn c.V _ (H.sees hx.f hx.le) x.2.C x.2.R name now long _ he hx.q hn hφ
theorem zVf (H:CoreOk m B c) (hi:i<4) (hD:D i=some x) (hx:DeedOk c x.2) {name:ByteArray} {n tries:Int} {C':List Ch} (hn:name.size≤200) (he:ackA (valR (c.at x.2.since)) x.2.C x.2.R name n tries=(0,C')) (hφ:∀w,φ w→LibOk w) :
 Does Tryz.prog 50 #[.pointer (some ⟨x.1,0,none⟩),.string name,.int .i64 n,.int .i64 tries] [EngR e p m c D,.imm φ] (fun _:Unit=>(.nilIface,[EngR e p m c (setF D i (some (x.1,⟨x.2.since,C',zBK (valR (c.at x.2.since)) x.2.C x.2.R name n tries⟩))),.imm φ])):=
 zG0 hi hD (rs:=[.imm φ]) (val:=fun _=>.nilIface) (C:=fun _=>C') (R:=fun _=>zBK (valR (c.at x.2.since)) x.2.C x.2.R name n tries) (out:=fun _=>[.imm φ]) fun v=>by
  have hs:=H.sees hx.f hx.le;have h:=zQJ x.1 v x.2.since c.nn c.V (valR (c.at x.2.since)) x.2.C x.2.R name n tries hs.rd hs.val hx.q.val hn (by have:=hx.q.c12;omega) hx.q.ups hx.q.r40 hs.v6 hφ;rw [he] at h;exact h
end
