/- Texts RdL, SerL of this claim, laid together. -/
import Derived.Test.YtagcmjmcjpjihaaGreatDoorHC38
import Derived.Test.YtagcmjmcjpjihaaGreatDoorHSe4
set_option linter.unusedVariables false
set_option linter.unusedSimpArgs false
namespace Go.Proofs.YtagcmjmcjpjihaaGreatDoor
open Go.RowKit
theorem ComOk.others {m B:Nat} {c:Core} {D:Nat→Option (Nat×Dv)} {i:Nat} {x:Dv} {n k:Nat} {c':Core} {D':Nat→Option (Nat×Dv)} (h:ComOk m B c D i x n k c' D') {s:Nat} (hs:i≠s):D' s=D s:=by
 have hn:setF D i .none s=D s:=if_neg (fun e=>hs e.symm);cases h with
 | none h1=>exact hn
 | late h1 h2=>exact hn
 | full h1 h2 h3 h4=>rfl
 | done d h R0 W0 u h1 h2 h3 h4 h5=>exact hn
 | down c' h1 h2 h3 h4=>rfl
theorem PStep.other {m B:Nat} {p p':PS} {a:Ac} (h:PStep m B p a p') {s:Nat} (hs:a.ses≠s):p'.D s=p.D s:=by
 have hn:∀(D:Nat→Option (Nat×Dv)) o,setF D a.ses o s=D s:=fun D o=>if_neg (fun e=>hs e.symm)
 cases h with
 | beg q k1 k2=>exact hn _ _
 | same=>rfl
 | com x n c' D' k1 k2 k3=>exact k3.others hs
 | comno x n k c' D' k1 k2 k3 k4 k5=>exact k5.others hs
 | ab x k1 k2=>exact hn _ _
 | vac k1=>rfl
 | save c' k1 k2=>rfl
 | told x res k2 k3=>exact hn _ _
theorem ComOk.past {m B:Nat} {c:Core} {D:Nat→Option (Nat×Dv)} {i:Nat} {x:Dv} {n k:Nat} {c':Core} {D':Nat→Option (Nat×Dv)} (h:ComOk m B c D i x n k c' D') (H:CoreOk m B c) (hk:k≠10):c.nn≤c'.nn∧∀j,j≤c.nn→c'.at j=c.at j:=by
 cases h with
 | none h1=>exact ⟨Nat.le_refl _,fun _ _=>rfl⟩
 | late h1 h2=>exact ⟨Nat.le_refl _,fun _ _=>rfl⟩
 | full h1 h2 h3 h4=>exact ⟨Nat.le_refl _,fun _ _=>rfl⟩
 | done d h R0 W0 u h1 h2 h3 h4 h5=>exact ⟨Nat.le_succ _,fun j hj=>H.comLe _ _ _ _ _ _ _ hj⟩
 | down c' h1 h2 h3 h4=>exact absurd rfl hk
theorem PStep.past {m B:Nat} {p p':PS} {a:Ac} (h:PStep m B p a p') (H:CoreOk m B p.c):p.c.nn≤p'.c.nn∧∀j,j≤p.c.nn→p'.c.at j=p.c.at j:=by
 cases h with
 | beg q k1 k2=>exact ⟨Nat.le_refl _,fun _ _=>rfl⟩
 | same=>exact ⟨Nat.le_refl _,fun _ _=>rfl⟩
 | com x n c' D' k1 k2 k3=>exact k3.past H (by omega)
 | comno x n k c' D' k1 k2 k3 k4 k5=>exact k5.past H k4
 | ab x k1 k2=>exact ⟨Nat.le_refl _,fun _ _=>rfl⟩
 | vac k1=>exact ⟨Nat.le_refl _,fun _ _=>rfl⟩
 | save c' k1 k2=>
  obtain ⟨d,hd,R0,W0,u,rfl,_⟩:=k2;exact ⟨Nat.le_refl _,fun _ _=>rfl⟩
 | told x res k2 k3=>exact ⟨Nat.le_refl _,fun _ _=>rfl⟩
theorem PRun.past {m B:Nat} {p q:PS} {l:List Ac} (h:PRun m B p l q) (H:PSOk m B p) (hB:B+l.length≤1000):p.c.nn≤q.c.nn∧∀j,j≤p.c.nn→q.c.at j=p.c.at j:=by
 induction h with
 | nil=>exact ⟨Nat.le_refl _,fun _ _=>rfl⟩
 | snoc a h1 h2 ih=>
  rw [List.length_append,List.length_singleton] at hB;obtain ⟨g2,g3⟩:=ih (by omega);obtain ⟨k2,k3⟩:=h2.past (h1.ok H (by omega)).c;exact ⟨Nat.le_trans g2 k2,fun j hj=>(k3 j (by omega)).trans (g3 j hj)⟩
theorem PRun.others {m B:Nat} {p q:PS} {l:List Ac} (h:PRun m B p l q) (H:PSOk m B p) (hB:B+l.length≤1000) {s:Nat} (hs:∀a∈l,a.ses≠s):q.D s=p.D s∧p.c.nn≤q.c.nn∧∀j,j≤p.c.nn→q.c.at j=p.c.at j:=by
 refine ⟨?_,h.past H hB⟩;clear H hB
 induction h with
 | nil=>rfl
 | snoc a h1 h2 ih=>exact (h2.other (hs a (by simp))).trans (ih fun x hx=>hs x (List.mem_append_left _ hx))
def PLen (K:Nat) (p:PS):Prop:=(∀i,(p.N i).length≤K)∧∀d∈p.out,d.acts.length≤K
theorem PStep.len {m B K:Nat} {p p':PS} {a:Ac} (h:PStep m B p a p') (hl:PLen K p):PLen (K+1) p':=by
 have h0:PLen (K+1) p:=⟨fun i=>Nat.le_succ_of_le (hl.1 i),fun d hd=>Nat.le_succ_of_le (hl.2 d hd)⟩
 cases h with
 | beg q k1 k2=>
  refine ⟨fun i=>?_,h0.2⟩;show (zBg p.N a.ses [] i).length≤_;unfold zBg;split
  ·exact Nat.zero_le _
  ·exact h0.1 i
 | same=>exact h0
 | com x n c' D' k1 k2 k3=>
  refine ⟨h0.1,fun d hd=>?_⟩;rcases List.mem_append.1 hd with h5 | h5
  ·exact h0.2 d h5
  ·rw [List.mem_singleton.1 h5];exact h0.1 _
 | comno x n k c' D' k1 k2 k3 k4 k5=>exact h0
 | ab x k1 k2=>exact h0
 | vac k1=>exact h0
 | save c' k1 k2=>exact h0
 | told x res k2 k3=>
  refine ⟨fun i=>?_,h0.2⟩;show (zBg p.N a.ses (p.N a.ses++[_]) i).length≤_;unfold zBg;split
  ·rw [List.length_append,List.length_singleton];exact Nat.succ_le_succ (hl.1 _)
  ·exact h0.1 i
theorem PRun.len {m B K:Nat} {p q:PS} {l:List Ac} (h:PRun m B p l q) (hl:PLen K p):PLen (K+l.length) q:=by
 induction h with
 | nil=>exact hl
 | snoc a h1 h2 ih=>rw [List.length_append,List.length_singleton];exact h2.len ih
def AgR (A B:List Rw) (R:List Sp):Prop:=∀r:Rw,(R.any fun s=>s.has r.key)=true→(r∈A↔r∈B)
theorem AgR.sub {A B:List Rw} {R R':List Sp} (h:AgR A B R') (hs:∀s∈R,s∈R'):AgR A B R:=fun r hr=>h r (by
 simp only [List.any_eq_true] at hr ⊢;obtain ⟨s,h1,h2⟩:=hr;exact ⟨s,hs s h1,h2⟩)
theorem zLo {R:List Sp} {s:Sp} (h:hasS R s=true):s∈R:=by
 unfold hasS at h;obtain ⟨x,h1,h2⟩:=List.any_eq_true.1 h;unfold eqS at h2;simp only [Bool.and_eq_true,decide_eq_true_eq] at h2;obtain ⟨xl,xh⟩:=x;obtain ⟨sl,sh⟩:=s;dsimp only at h2;obtain ⟨rfl,rfl⟩:=h2;exact h1
theorem zKA (R:List Sp) (s:Sp):∀x∈R,x∈zA7 R s:=fun x hx=>by
 unfold zA7;split
 ·exact hx
 ·split
  ·exact hx
  ·exact List.mem_append_left _ hx
theorem zMj {R:List Sp} {s:Sp} (h:zAY R s=0):s∈zA7 R s:=by
 unfold zAY at h;unfold zA7;split
 ·rename_i h1;exact zLo h1
 ·rename_i h1;rw [if_neg h1] at h;split
  ·rename_i h2;rw [if_pos h2] at h;cases h
  ·exact List.mem_append_right _ (List.mem_singleton.2 rfl)
theorem zLz {R:List Sp} {s:Sp} (h:zAY R s≠0):hasS R s=false∧R.length=40∧zA7 R s=R:=by
 unfold zAY at h;unfold zA7;split at h
 ·exact absurd rfl h
 ·rename_i h1;split at h
  ·rename_i h2;exact ⟨by simpa using h1,h2,by rw [if_neg h1,if_pos h2]⟩
  ·exact absurd rfl h
theorem AgR.val {A B:List Rw} {R:List Sp} (h:AgR A B R) (hA:RUps A) (hB:RUps B) {k:ByteArray} (hk:Sp.point k∈R):valR A k=valR B k:=by
 have hp:∀r:Rw,r.key=k→(r∈A↔r∈B):=fun r hr=>h r (by
  simp only [List.any_eq_true];refine ⟨_,hk,?_⟩;rw [hr];unfold Sp.point;rw [zEq];unfold hasB zGK;rw [zBw,zEj];simp)
 rcases zFq hA k with ⟨r,h1,h2,h3⟩ | ⟨h1,h3⟩
 ·have:=zGV hB ((hp r h2).1 h1);rw [h2] at this;rw [h3,this]
 ·rw [h3,zE7 fun r hr he=>h1 r ((hp r he).2 hr) he]
theorem AgR.getG {A B:List Rw} {C:List Ch} {R:List Sp} {k:ByteArray} (hA:RUps A) (hB:RUps B) (h:AgR A B (getB C R k)):getG (valR A k) C R k=getG (valR B k) C R k:=by
 unfold getB at h;unfold Proofs.YtagcmjmcjpjihaaGreatDoor.getG;split
 ·rfl
 ·rename_i h1;rw [if_neg h1] at h;cases hf:zCS C k with
  | some c=>rfl
  | none=>
   rw [hf] at h;dsimp only at h ⊢;split
   ·rfl
   ·rename_i h2;rw [h.val hA hB (zMj (Classical.not_not.1 h2))]
theorem zIQ (C:List Ch) (R:List Sp) (k:ByteArray):∀x∈R,x∈getB C R k:=fun x hx=>by
 unfold getB;split
 ·exact hx
 ·split
  ·exact hx
  ·exact zKA _ _ x hx
theorem zCv (C:List Ch) (R:List Sp) (name:ByteArray):∀x∈R,x∈zAI C R name:=fun x hx=>by
 unfold zAI;split
 ·exact hx
 ·exact zIQ _ _ _ x hx
theorem AgR.find {A B:List Rw} {C:List Ch} {R:List Sp} {name:ByteArray} (hA:RUps A) (hB:RUps B) (h:AgR A B (zAI C R name)):zAO (valR A (queB name)) C R name=zAO (valR B (queB name)) C R name:=by
 unfold zAI at h;unfold zAO;split
 ·rfl
 ·rename_i h1;rw [if_neg h1] at h;rw [h.getG hA hB]
theorem AgR.create {A B:List Rw} {C:List Ch} {R:List Sp} {name:ByteArray} {tries:Int} {dead:ByteArray} (hA:RUps A) (hB:RUps B) (h:AgR A B (zAq (valR A) C R name tries dead).2.2):zAq (valR A) C R name tries dead=zAq (valR B) C R name tries dead:=by
 have h1:AgR A B (zAI C R name):=by
  refine h.sub fun s hs=>?_
  unfold zAq;split
  ·exact hs
  ·split
   ·exact hs
   ·split
    ·exact hs
    ·split
     ·exact hs
     ·split
      ·exact zCv _ _ _ s hs
      ·exact zCv _ _ _ s hs
 unfold zAq at h ⊢;rw [←h1.find hA hB];split
 ·rfl
 ·rename_i g1;rw [if_neg g1] at h;split
  ·rfl
  ·rename_i g2;rw [if_neg g2] at h;split
   ·rfl
   ·rename_i g3;rw [if_neg g3] at h;split
    ·rfl
    ·rename_i g4;rw [if_neg g4] at h;have h2:AgR A B (zAI C (zAI C R name) dead):=by
      refine h.sub fun s hs=>?_
      split<;>exact hs
     rw [h2.find hA hB]
theorem zGY (Y:ByteArray→ByteArray×Bool) (C:List Ch) (R:List Sp) (name:ByteArray) (n tries:Int):∀x∈zAI C R name,x∈zBK Y C R name n tries:=fun x hx=>by
 unfold zBK;split
 ·exact hx
 ·exact zIQ _ _ _ x hx
theorem AgR.mine {A B:List Rw} {C:List Ch} {R:List Sp} {name:ByteArray} {n tries:Int} (hA:RUps A) (hB:RUps B) (h:AgR A B (zBK (valR A) C R name n tries)):zBf (valR A) C R name n tries=zBf (valR B) C R name n tries∧zBK (valR A) C R name n tries=zBK (valR B) C R name n tries:=by
 have h1:=(h.sub (zGY _ _ _ _ _ _)).find hA hB;unfold zBK at h ⊢;unfold zBf;rw [←h1];refine ⟨?_,rfl⟩;split
 ·rfl
 ·rename_i g1;split
  ·rfl
  ·rename_i g2;rw [if_neg (by rintro (h | h);exact g1 h;exact g2 h)] at h;rw [h.getG hA hB]
theorem AgR.ack {A B:List Rw} {C:List Ch} {R:List Sp} {name:ByteArray} {n tries:Int} (hA:RUps A) (hB:RUps B) (h:AgR A B (zBK (valR A) C R name n tries)):ackA (valR A) C R name n tries=ackA (valR B) C R name n tries:=by
 unfold ackA;rw [(h.mine hA hB).1]
theorem AgR.wait {A B:List Rw} {C:List Ch} {R:List Sp} {name:ByteArray} {n tries til:Int} (hA:RUps A) (hB:RUps B) (h:AgR A B (zBK (valR A) C R name n tries)):zCL (valR A) C R name n tries til=zCL (valR B) C R name n tries til:=by
 unfold zCL;rw [(h.mine hA hB).1]
theorem AgR.Send {A B:List Rw} {C:List Ch} {R:List Sp} {name body:ByteArray} {til:Int} (hA:RUps A) (hB:RUps B) (h:AgR A B (zAI C R name)):zBa (valR A (queB name)) C R name body til=zBa (valR B (queB name)) C R name body til:=by
 unfold zBa;rw [h.find hA hB]
theorem zOC {P:ByteArray→Prop}:∀(C:List Ch) {A B:List Rw},(∀r:Rw,P r.key→(r∈A↔r∈B))→∀r:Rw,P r.key→(r∈C.foldl appR A↔r∈C.foldl appR B)
 | [],_,_,h=>h
 | c::C,A,B,h=>by
  rw [List.foldl_cons,List.foldl_cons];refine zOC C fun r hr=>?_
  unfold appR;rw [zAi,zAi,h r hr]
theorem zKE:∀{L:List Rw} {n:Nat} (h:n<L.length),RUps L→L.filter (fun r=>!slt L[n].key r.key)=L.take (n+1)
 | x::l,0,h,hu=>by
  rw [List.getElem_cons_zero,List.filter_cons,zBw];simp only [Bool.not_false,if_true,Nat.zero_add,List.take_succ_cons,List.take_zero]
  congr 1
  refine List.filter_eq_nil_iff.2 fun r hr=>?_
  rw [hu.head r hr];simp
 | x::l,n+1,h,hu=>by
  rw [List.getElem_cons_succ,List.filter_cons,List.take_succ_cons];have hn:n<l.length:=by simpa using h
  rw [if_pos (by rw [zBR (hu.head _ (List.getElem_mem hn))];rfl),zKE hn hu.tail]
theorem zIa {k:ByteArray}:∀{L:List Rw},RUps L→∃t,L=L.filter (fun r=>!slt k r.key)++t
 | [],_=>⟨[],rfl⟩
 | x::l,hu=>by
  rw [List.filter_cons];cases hx:slt k x.key with
  | false=>
   obtain ⟨t,ht⟩:=zIa (k:=k) hu.tail;exact ⟨t,by simp only [Bool.not_false,if_true,List.cons_append];rw [←ht]⟩
  | true=>
   refine ⟨x::l,?_⟩;simp only [Bool.not_true,Bool.false_eq_true,if_false];rw [List.filter_eq_nil_iff.2 fun r hr=>?_]
   ·rfl
   ·rw [zAv hx (hu.head r hr)];simp
theorem zOd {L:List Rw} {lo hi:ByteArray} {n:Nat} (h1:1≤n) (h:n≤L.length):scnS L lo hi n=Sp.both ⟨lo,hi⟩ ⟨⟨#[]⟩,(L[n-1]'(by omega)).key++nul⟩:=by
 unfold scnS;rw [if_pos (by omega),Int.toNat_natCast];rw [List.getD_eq_getElem?_getD,List.getElem?_eq_getElem (by omega)];rfl
theorem zML {L:List Rw} {lo hi:ByteArray} {n:Nat} (h:L.length<n):scnS L lo hi n=⟨lo,hi⟩:=by
 unfold scnS;rw [if_neg (by omega)]
theorem zQK {A B:List Rw} (hA:RUps A) (hB:RUps B) {lo hi:ByteArray} {n:Nat} (h1:1≤n) (h:∀r:Rw,(scnS (inR lo hi A) lo hi n).has r.key=true→(r∈A↔r∈B)) :
 scnS (inR lo hi B) lo hi n=scnS (inR lo hi A) lo hi n∧(inR lo hi B).take n=(inR lo hi A).take n:=by
 have hLA:RUps (inR lo hi A):=List.Pairwise.filter _ hA;have hLB:RUps (inR lo hi B):=List.Pairwise.filter _ hB;have hm:∀(r:Rw) (L:List Rw),r∈inR lo hi L↔r∈L∧hasB lo hi r.key=true:=fun r L=>List.mem_filter
 by_cases hn:n≤(inR lo hi A).length
 ·rw [zOd h1 hn] at h ⊢;have hi9:n-1<(inR lo hi A).length:=by omega
  obtain ⟨k,hk⟩:∃k,k=((inR lo hi A)[n-1]'hi9).key:=⟨_,rfl⟩
  have e1:(inR lo hi A).filter (fun r=>!slt k r.key)=(inR lo hi A).take n:=by
   rw [hk,zKE hi9 hLA,show n-1+1=n from by omega]
  have e2:(inR lo hi B).filter (fun r=>!slt k r.key)=(inR lo hi A).filter (fun r=>!slt k r.key):=by
   refine RUps.ext (List.Pairwise.filter _ hLB) (List.Pairwise.filter _ hLA) fun r=>?_
   rw [List.mem_filter,List.mem_filter,hm,hm];have h9:hasB lo hi r.key=true→(!slt k r.key)=true→(r∈A↔r∈B):=fun g1 g2=>h r (by
    rw [zNF,zEq,g1,←hk,zM8,g2];rfl)
   constructor
   ·rintro ⟨⟨g1,g2⟩,g3⟩;exact ⟨⟨(h9 g2 g3).2 g1,g2⟩,g3⟩
   ·rintro ⟨⟨g1,g2⟩,g3⟩;exact ⟨⟨(h9 g2 g3).1 g1,g2⟩,g3⟩
  obtain ⟨t,ht⟩:=zIa (k:=k) hLB;rw [e2,e1] at ht;have hl:((inR lo hi A).take n).length=n:=by rw [List.length_take];omega
  have hT:(inR lo hi B).take n=(inR lo hi A).take n:=by
   rw [ht,List.take_append_of_le_length (by omega),List.take_take,Nat.min_self]
  have hnB:n≤(inR lo hi B).length:=by
   rw [ht,List.length_append];omega
  refine ⟨?_,hT⟩;rw [zOd h1 hnB];have e3:(inR lo hi B)[n-1]?=(inR lo hi A)[n-1]?:=by
   have:=congrArg (fun l=>l[n-1]?) hT;(try dsimp only at this)
   rwa [List.getElem?_take_of_lt (by omega),List.getElem?_take_of_lt (by omega)] at this
  rw [List.getElem?_eq_getElem (by omega),List.getElem?_eq_getElem (by omega)] at e3;injection e3 with e3
  rw [e3]
 ·have hn2:(inR lo hi A).length<n:=by omega
  rw [zML hn2] at h ⊢;have e:inR lo hi B=inR lo hi A:=RUps.ext hLB hLA fun r=>by
   rw [hm,hm];constructor
   ·rintro ⟨g1,g2⟩;exact ⟨(h r (by rw [zEq,g2])).2 g1,g2⟩
   ·rintro ⟨g1,g2⟩;exact ⟨(h r (by rw [zEq,g2])).1 g1,g2⟩
  rw [e];exact ⟨zML hn2,rfl⟩
theorem zB9 (L:List Rw) (R:List Sp) (lo hi:ByteArray) (most:Int):∀x∈R,x∈scnB L R lo hi most:=fun x hx=>by
 unfold scnB;split
 ·exact hx
 ·exact zKA _ _ x hx
theorem AgR.scan {A B:List Rw} {C:List Ch} {R:List Sp} {lo hi:ByteArray} {most:Int} (hA:RUps A) (hB:RUps B) (h:AgR A B (scnB (inR lo hi (C.foldl appR A)) R lo hi most)) :
 scnN (inR lo hi (C.foldl appR B)) R lo hi most=scnN (inR lo hi (C.foldl appR A)) R lo hi most∧scnB (inR lo hi (C.foldl appR B)) R lo hi most=scnB (inR lo hi (C.foldl appR A)) R lo hi most∧scnO (inR lo hi (C.foldl appR B)) R lo hi most=scnO (inR lo hi (C.foldl appR A)) R lo hi most∧
 (scnN (inR lo hi (C.foldl appR A)) R lo hi most=0→(inR lo hi (C.foldl appR B)).take most.toNat=(inR lo hi (C.foldl appR A)).take most.toNat):=by
 by_cases hm:most<1
 ·have e:∀L,scnN L R lo hi most=1:=fun L=>by unfold scnN;rw [if_pos hm]
  refine ⟨by rw [e,e],by unfold scnB;rw [if_pos hm,if_pos hm],by unfold scnO;rw [if_neg (by rw [e];simp),if_neg (by rw [e];simp)],fun h0=>by rw [e] at h0;cases h0⟩
 ·obtain ⟨n,rfl⟩:∃n:Nat,most=n:=⟨most.toNat,by omega⟩
  have h1:1≤n:=by omega
  have hAC:RUps (C.foldl appR A):=zEn hA;have hBC:RUps (C.foldl appR B):=zEn hB;have key:∀s:Sp,s∈scnB (inR lo hi (C.foldl appR A)) R lo hi n→∀r:Rw,s.has r.key=true→(r∈C.foldl appR A↔r∈C.foldl appR B):=fun s hs=>
   zOC (P:=fun k=>s.has k=true) C fun r hr=>h r (by simp only [List.any_eq_true];exact ⟨s,hs,hr⟩)
  have eN:∀L,scnN L R lo hi n=zAY R (scnS L lo hi n):=fun L=>by unfold scnN;rw [if_neg hm]
  have eB:∀L,scnB L R lo hi n=zA7 R (scnS L lo hi n):=fun L=>by unfold scnB;rw [if_neg hm]
  rw [eN,eN,eB,eB];rw [eB] at key;by_cases h0:zAY R (scnS (inR lo hi (C.foldl appR A)) lo hi n)=0
  ·obtain ⟨g1,g2⟩:=zQK hAC hBC h1 (key _ (zMj h0));refine ⟨by rw [g1],by rw [g1],?_,fun _=>g2⟩;unfold scnO;rw [eN,eN,g1,Int.toNat_natCast,g2]
  ·obtain ⟨q1,q2,q3⟩:=zLz h0;have h9:zAY R (scnS (inR lo hi (C.foldl appR B)) lo hi n)≠0:=fun h9=>by
    have hin:scnS (inR lo hi (C.foldl appR B)) lo hi n∈R:=by
     unfold zAY at h9;split at h9
     ·rename_i h8;exact zLo h8
     ·first | omega | (rw [if_pos q2] at h9;omega)
    rw [q3] at key;obtain ⟨g1,g2⟩:=zQK hBC hAC h1 (fun r hr=>(key _ hin r hr).symm);rw [←g1] at h9;exact h0 h9
   obtain ⟨p1,p2,p3⟩:=zLz h9;refine ⟨?_,by rw [p3,q3],?_,fun h=>absurd h h0⟩
   ·have e1:zAY R (scnS (inR lo hi (C.foldl appR B)) lo hi n)=2:=by unfold zAY;rw [if_neg (by rw [p1];simp),if_pos p2]
    have e2:zAY R (scnS (inR lo hi (C.foldl appR A)) lo hi n)=2:=by unfold zAY;rw [if_neg (by rw [q1];simp),if_pos q2]
    rw [e1,e2]
   ·unfold scnO;rw [eN,eN,if_neg h9,if_neg h0]
theorem zFZ (Y:ByteArray→ByteArray×Bool) (C:List Ch) (R:List Sp) (name:ByteArray) (u:Qu) (m:Ms):∀x∈R,x∈(zAh Y C R name u m).2.2:=fun x hx=>by
 unfold zAh;split
 ·exact hx
 ·split
  ·exact hx
  ·split
   ·exact zCv _ _ _ x hx
   ·exact zCv _ _ _ x hx
theorem AgR.bury {A B:List Rw} {C:List Ch} {R:List Sp} {name:ByteArray} {u:Qu} {m:Ms} (hA:RUps A) (hB:RUps B) (h:AgR A B (zAh (valR A) C R name u m).2.2):zAh (valR A) C R name u m=zAh (valR B) C R name u m:=by
 unfold zAh at h ⊢;split
 ·rfl
 ·rename_i g1;rw [if_neg g1] at h;split
  ·rfl
  ·rename_i g2;rw [if_neg g2] at h;have h2:AgR A B (zAI (putL C (zAa name m.num)) R u.dead):=by
    refine h.sub fun s hs=>?_
    split<;>exact hs
   rw [h2.find hA hB]
theorem Recv.sub {rows:List Rw} {name:ByteArray} {u:Qu} {now long:Int} {C:List Ch} {R:List Sp} {lo:ByteArray} {res:Ms×Nat×List Ch×List Sp} (h:Recv rows name u now long C R lo res):∀x∈R,x∈res.2.2.2:=by
 induction h with
 | bad hL h1 e=>subst e;exact fun x hx=>by dsimp only;exact zB9 _ _ _ _ _ x hx
 | empty hL h1 e=>subst e;exact fun x hx=>by dsimp only;exact zB9 _ _ _ _ _ x hx
 | text hL h1 hn hv h2 e=>subst e;exact fun x hx=>by dsimp only;exact zB9 _ _ _ _ _ x hx
 | skip hL h1 hn hv h2 h3 h ih=>exact fun x hx=>ih x (zB9 _ _ _ _ _ x hx)
 | lost hL h1 hn hv h2 h3 h4 h5 e=>subst e;exact fun x hx=>zFZ _ _ _ _ _ _ x (zB9 _ _ _ _ _ x hx)
 | bury hL h1 hn hv h2 h3 h4 h5 h ih=>exact fun x hx=>ih x (zFZ _ _ _ _ _ _ x (zB9 _ _ _ _ _ x hx))
 | take hL h1 hn hv h2 h3 h4 e=>subst e;exact fun x hx=>by dsimp only;exact zB9 _ _ _ _ _ x hx
theorem AgR.first {A B:List Rw} {C:List Ch} {R:List Sp} {lo hi:ByteArray} {r:Rw} {t:List Rw} (hA:RUps A) (hB:RUps B) (hL:inR lo hi (C.foldl appR A)=r::t) (h0:scnN (r::t) R lo hi 1=0) (h:AgR A B (scnB (r::t) R lo hi 1)) :
 ∃t',inR lo hi (C.foldl appR B)=r::t'∧scnN (r::t') R lo hi 1=0∧scnB (r::t') R lo hi 1=scnB (r::t) R lo hi 1:=by
 rw [←hL] at h h0;obtain ⟨g1,g2,_,g4⟩:=AgR.scan hA hB h;have g5:=g4 h0;rw [hL] at g5 g2;cases hq:inR lo hi (C.foldl appR B) with
 | nil=>rw [hq] at g5;cases g5
 | cons y t'=>
  rw [hq] at g5 g2 g1;have:y=r:=by
   have:=congrArg List.head? g5;simpa using this
  subst this;exact ⟨t',rfl,by rw [g1];exact h0,g2⟩
theorem Recv.ag {A B:List Rw} (hA:RUps A) (hB:RUps B) {name:ByteArray} {u:Qu} {now long:Int} {C:List Ch} {R:List Sp} {lo:ByteArray} {res:Ms×Nat×List Ch×List Sp} (h:Recv A name u now long C R lo res) (hg:AgR A B res.2.2.2):Recv B name u now long C R lo res:=by
 induction h with
 | bad hL h1 e=>
  subst e hL;dsimp only at hg;obtain ⟨g1,g2,_⟩:=AgR.scan hA hB hg;exact .bad rfl (by rw [g1];exact h1) (by rw [g1,g2])
 | empty hL h1 e=>
  subst e;rw [←hL] at hg h1;dsimp only at hg;obtain ⟨g1,g2,_,g4⟩:=AgR.scan hA hB hg;have g5:=g4 h1;rw [hL] at g5;have g6:=List.take_eq_nil_iff.1 (g5.trans (List.take_nil));rcases g6 with g6 | g6
  ·cases g6
  ·rw [g6] at g1 g2;refine .empty g6 (by rw [g1];exact h1) ?_;rw [g2]
 | text hL h1 hn hv h2 e=>
  subst e;obtain ⟨t',q1,q2,q3⟩:=AgR.first hA hB hL h1 hg;exact .text q1 q2 hn hv h2 (by rw [q3])
 | skip hL h1 hn hv h2 h3 h ih=>
  obtain ⟨t',q1,q2,q3⟩:=AgR.first hA hB hL h1 (hg.sub h.sub);exact .skip q1 q2 hn hv h2 h3 (by rw [q3];exact ih hg)
 | lost hL h1 hn hv h2 h3 h4 h5 e=>
  subst e;obtain ⟨t',q1,q2,q3⟩:=AgR.first hA hB hL h1 (hg.sub (zFZ _ _ _ _ _ _));have hb:=AgR.bury hA hB hg;exact .lost q1 q2 hn hv h2 h3 h4 (by rw [q3,←hb];exact h5) (by rw [q3,←hb])
 | bury hL h1 hn hv h2 h3 h4 h5 h ih=>
  have hs:=hg.sub h.sub;obtain ⟨t',q1,q2,q3⟩:=AgR.first hA hB hL h1 (hs.sub (zFZ _ _ _ _ _ _));have hb:=AgR.bury hA hB hs;exact .bury q1 q2 hn hv h2 h3 h4 (by rw [q3,←hb];exact h5) (by rw [q3,←hb];exact ih hg)
 | take hL h1 hn hv h2 h3 h4 e=>
  subst e;obtain ⟨t',q1,q2,q3⟩:=AgR.first hA hB hL h1 hg;exact .take q1 q2 hn hv h2 h3 h4 (by rw [q3])
theorem RecvAns.sub {rows:List Rw} {C:List Ch} {R:List Sp} {name:ByteArray} {now long:Int} {res:Ms×Nat×List Ch×List Sp} (h:RecvAns rows C R name now long res):∀x∈zAI C R name,x∈res.2.2.2:=by
 cases h with
 | nofind h e=>subst e;exact fun x hx=>hx
 | notime h0 h e=>subst e;exact fun x hx=>hx
 | fail h0 ht hr hb e=>subst e;exact hr.sub
 | done h0 ht hr hb=>exact hr.sub
theorem RecvAns.ag {A B:List Rw} (hA:RUps A) (hB:RUps B) {C:List Ch} {R:List Sp} {name:ByteArray} {now long:Int} {res:Ms×Nat×List Ch×List Sp} (h:RecvAns A C R name now long res) (hg:AgR A B res.2.2.2):RecvAns B C R name now long res:=by
 have hf:=AgR.find hA hB (hg.sub h.sub);cases h with
 | nofind h e=>exact .nofind (by rw [←hf];exact h) (by rw [←hf];exact e)
 | notime h0 h e=>exact .notime (by rw [←hf];exact h0) h e
 | fail h0 ht hr hb e=>
  subst e;exact .fail (by rw [←hf];exact h0) ht (by rw [←hf];exact hr.ag hA hB hg) hb rfl
 | done h0 ht hr hb=>exact .done (by rw [←hf];exact h0) ht (by rw [←hf];exact hr.ag hA hB hg) hb
theorem zKc (rows:List Rw) (C:List Ch) (R:List Sp) (name:ByteArray):∀x∈zAI C R name,x∈(zA3 rows C R name).2.2:=fun x hx=>by
 unfold zA3;split
 ·exact hx
 ·split
  ·dsimp only;exact zB9 _ _ _ _ _ x hx
  ·split
   ·dsimp only;exact zB9 _ _ _ _ _ x hx
   ·dsimp only;exact zB9 _ _ _ _ _ x hx
theorem AgR.msgs {A B:List Rw} {C:List Ch} {R:List Sp} {name:ByteArray} (hA:RUps A) (hB:RUps B) (h:AgR A B (zA3 A C R name).2.2):zA3 A C R name=zA3 B C R name:=by
 have hf:=(h.sub (zKc _ _ _ _)).find hA hB;unfold zA3 at h ⊢;rw [←hf];split
 ·rfl
 ·rename_i g1;rw [if_neg g1] at h;have h2:AgR A B (scnB (inR (loB name) (hiB name) (C.foldl appR A)) (zAI C R name) (loB name) (hiB name) 53):=by
   refine h.sub fun s hs=>?_
   split
   ·exact hs
   ·split<;>exact hs
  obtain ⟨q1,q2,_,q4⟩:=AgR.scan hA hB h2;rw [q1,q2];split
  ·rfl
  ·rename_i g2;rw [show (53:Nat)=(53:Int).toNat from rfl,q4 (Classical.not_not.1 g2)]
theorem zQs (rows:List Rw) (C:List Ch) (R:List Sp) (x:Ac) {res:Ms×Nat×List Ch×List Sp} (hr:zCx rows C R x res):∀s∈R,s∈(zAd rows C R x res).2.2:=fun s hs=>by
 have hf:=zCv C R x.s s hs;unfold zAd;split
 ·show s∈(zAq (valR rows) C R x.s x.a x.t).2.2;unfold zAq;split
  ·exact hf
  ·split
   ·exact hf
   ·split
    ·exact hf
    ·split
     ·exact hf
     ·split
      ·exact zCv _ _ _ s hf
      ·exact zCv _ _ _ s hf
 ·split
  ·exact hf
  ·split
   ·exact hr.1.sub s hf
   ·split
    ·exact zGY _ _ _ _ _ _ s hf
    ·split
     ·exact zGY _ _ _ _ _ _ s hf
     ·split
      ·exact hs
      ·split
       ·exact hs
       ·split
        ·exact zIQ _ _ _ s hs
        ·split
         ·exact zKc _ _ _ _ s hf
         ·exact zB9 _ _ _ _ _ s hs
theorem zRi {A B:List Rw} (hA:QRows A) (hB:QRows B) {C:List Ch} {R:List Sp} (hI:QInv C R) (x:Ac) {res:Ms×Nat×List Ch×List Sp} (hr:zCx A C R x res) (h:AgR A B (zAd A C R x res).2.2):∃res',zCx B C R x res'∧zAd B C R x res'=zAd A C R x res:=by
 have uA:=hA.ups;have uB:=hB.ups;have hex:∃res',zCx B C R x res':=by
  obtain ⟨res',h1,h2⟩:=zIL x.s x.a x.b hB hI;exact ⟨res',h1,h2⟩
 by_cases k1:(x.kind.toList==[99,114,101,97,116,101])=true
 ·obtain ⟨res',hr'⟩:=hex;refine ⟨res',hr',?_⟩;unfold zAd at h ⊢;rw [if_pos k1] at h;rw [if_pos k1,if_pos k1,AgR.create uA uB h]
 by_cases k2:(x.kind.toList==[115,101,110,100])=true
 ·obtain ⟨res',hr'⟩:=hex;refine ⟨res',hr',?_⟩;unfold zAd at h ⊢;rw [if_neg k1,if_pos k2] at h;rw [if_neg k1,if_pos k2,if_neg k1,if_pos k2,AgR.Send uA uB h]
 by_cases k3:(x.kind.toList==[114,101,99,101,105,118,101])=true
 ·unfold zAd at h;rw [if_neg k1,if_neg k2,if_pos k3] at h;refine ⟨res,⟨hr.1.ag uA uB h,hr.2⟩,?_⟩;unfold zAd;rw [if_neg k1,if_neg k2,if_pos k3,if_neg k1,if_neg k2,if_pos k3]
 obtain ⟨res',hr'⟩:=hex;refine ⟨res',hr',?_⟩;unfold zAd at h ⊢;rw [if_neg k1,if_neg k2,if_neg k3] at h;rw [if_neg k1,if_neg k2,if_neg k3,if_neg k1,if_neg k2,if_neg k3];split
 ·rename_i k;rw [if_pos k] at h;rw [AgR.ack uA uB h,(AgR.mine uA uB h).2]
 ·rename_i k;rw [if_neg k] at h;split
  ·rename_i k;rw [if_pos k] at h;rw [AgR.wait uA uB h,(AgR.mine uA uB h).2]
  ·rename_i k;rw [if_neg k] at h;split
   ·rfl
   ·rename_i k;rw [if_neg k] at h;split
    ·rfl
    ·rename_i k;rw [if_neg k] at h;split
     ·rename_i k;rw [if_pos k] at h;rw [AgR.getG uA uB h]
     ·rename_i k;rw [if_neg k] at h;split
      ·rename_i k;rw [if_pos k] at h;rw [AgR.msgs uA uB h]
      ·rename_i k;rw [if_neg k] at h;obtain ⟨q1,q2,q3,_⟩:=AgR.scan uA uB h;rw [q1,q2,q3]
