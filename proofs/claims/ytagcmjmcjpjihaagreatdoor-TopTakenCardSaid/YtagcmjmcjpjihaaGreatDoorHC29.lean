/- Texts Log9, Lg3, Log10, Sd1, Sd2, LightD of this claim, laid together. -/
import Derived.Test.YtagcmjmcjpjihaaGreatDoorHC28
import Derived.Test.YtagcmjmcjpjihaaGreatDoorHC13
set_option linter.unusedVariables false
set_option linter.unusedSimpArgs false
set_option maxHeartbeats 8000000
set_option maxRecDepth 100000
namespace Go.Proofs.YtagcmjmcjpjihaaGreatDoor
open Go.RowKit
theorem zHq (first:Nat):∀(l:List ByteArray) (i:Nat) (out:List (List Ch)) (deed:List Ch) (used:Nat) (W:List (List Ch)) (u:Nat),scan first i l out deed used=(W,u)→
 W.length≤out.length+l.length∧∀x∈W,x∈out∨x.length≤deed.length+l.length
 | [],i,out,deed,used,W,u,h=>by
  rw [scan] at h;injection h with h1 h2
  subst h1;exact ⟨by simp,fun x hx=>.inl hx⟩
 | s::r,i,out,deed,used,W,u,h=>by
  have none:(out,used)=(W,u)→W.length≤out.length+(s::r).length∧∀x∈W,x∈out∨x.length≤deed.length+(s::r).length:=fun e=>by
   injection e with h1 h2
   subst h1;exact ⟨by simp,fun x hx=>.inl hx⟩
  rw [scan] at h;split at h
  ·exact none h
  ·split at h
   ·obtain ⟨h1,h2⟩:=zHq first r _ _ _ _ W u h;simp only [List.length_append,List.length_cons,List.length_nil] at h1;refine ⟨by simp;omega,fun x hx=>?_⟩;rcases h2 x hx with h3 | h3
    ·rcases List.mem_append.1 h3 with h3 | h3
     ·exact .inl h3
     ·rw [List.mem_singleton.1 h3];right;omega
    ·right;simp at h3 ⊢;omega
   ·exact none h
  ·split at h
   ·obtain ⟨h1,h2⟩:=zHq first r _ _ _ _ W u h;refine ⟨by simp;omega,fun x hx=>?_⟩;rcases h2 x hx with h3 | h3
    ·exact .inl h3
    ·right;simp at h3 ⊢;omega
   ·exact none h
def tkA:ByteArray:=⟨#[116,47,97]⟩
theorem zS6:KeyOk tkA:=.inl ⟨⟨#[97]⟩,by decide,.inl rfl⟩
def cAx:Ch:=⟨tkA,⟨#[120]⟩,false⟩
theorem zNE:ChOk cAx:=⟨zS6,fun (h:false=true)=>absurd h (by decide),by decide⟩
theorem Own.pureOf {S:Nat→Prop} {W w:World} {l l':List Rs} {p:Prop} (h:Own S W w l) (hp:Pick l (.pure p) l'):p:=h.factOf hp
theorem DkOk.mono {k j j':Nat} {d:Dk} (h:DkOk k j d) (hj:j≤j'):DkOk k j' d:=⟨h.now,h.kept,h.f1,h.f2,by have:=h.wait;omega,h.ats⟩
theorem zGN {B:List ByteArray} {n:Nat} {s:ByteArray} (hB:∀s∈B,s.size=96) (hs:s.size=96):∀x∈B.set n s,x.size=96:=fun x hx=>by
 rcases List.mem_or_eq_of_mem_set hx with h | rfl
 ·exact hB x h
 ·exact hs
theorem zFa:∀(ws:List (Nat×ByteArray)) (B:List ByteArray),(∀s∈B,s.size=96)→(∀t∈ws,t.2.size≤96)→∀s∈zAt B ws,s.size=96
 | [],B,hB,_=>hB
 | t::ws,B,hB,hw=>zFa ws (B.set t.1 (zAK t.2)) (zGN hB (zB2 _ (hw t (List.mem_cons_self ..)))) fun x hx=>hw x (List.mem_cons_of_mem _ hx)
theorem zQ9 {B:List ByteArray} {frm many first u:Nat} {l:List Ch} (hB:∀s∈B,s.size=96) (hl:∀c∈l,ChOk c) (hu:u+l.length+1≤many):∀s∈added B frm many first u l,s.size=96:=
 zGN (zFa _ _ hB fun t ht=>(zJW (frm:=frm) (first:=first) hl hu t ht).2) (zB2 _ (by rw [zDZ,zAw];omega))
theorem zG3 (bit:Nat→Bool) {wait:List (Nat×ByteArray)} {kept:List ByteArray} (hk:∀s∈kept,s.size=96) (hw:∀t∈wait,t.2.size=96):∀j,∀s∈zAe bit wait kept j,s.size=96
 | 0=>hk
 | j+1=>by
  unfold zAe;split
  ·rename_i a s hs;split
   ·exact zGN (zG3 bit hk hw j) (hw _ (List.mem_of_getElem? hs))
   ·exact zG3 bit hk hw j
  ·exact zG3 bit hk hw j
theorem zSH {ws:List (Nat×ByteArray)} (h:∀t∈ws,t.2.size≤96):∀t∈zDt ws,t.2.size=96:=fun t ht=>by
 obtain ⟨x,hx,rfl⟩:=List.mem_map.1 ht;exact zB2 _ (h x hx)
def Dk.puts (d:Dk) (ws:List (Nat×ByteArray)) (n:Nat) (s:ByteArray):Nat×Dk:=
 if (d.lays ws).1=0 then
  if (d.lays ws).2.flush.1=0 then
   if ((d.lays ws).2.flush.2.writeR (n:Int) s).1=0 then ((d.lays ws).2.flush.2.writeR (n:Int) s).2.flush
   else (d.lays ws).2.flush.2.writeR (n:Int) s
  else (d.lays ws).2.flush
 else d.lays ws
theorem zQn (d:Dk) (frm many first u:Nat) (l:List Ch):d.addD frm many first u l=d.puts (lws frm many first u l) (frm+(u+l.length)) (secB 99 (first+(u+l.length)) (four l.length)):=rfl
def putB (B:List ByteArray) (ws:List (Nat×ByteArray)) (n:Nat) (s:ByteArray):List ByteArray:=(zAt B ws).set n (zAK s)
theorem zNS (B:List ByteArray) (ws:List (Nat×ByteArray)) (n:Nat) (s:ByteArray):(putB B ws n s).length=B.length:=by unfold putB;rw [List.length_set,zBZ]
theorem zQE {d:Dk} {ws:List (Nat×ByteArray)} {n:Nat} {s:ByteArray} (hd:d.down=false) (hw:∀t∈ws,t.1<d.now.length∧t.2.size≤96) (hn:n<d.now.length) (hs:s.size≤96) :
 (∃f,d.puts ws n s=(0,⟨putB d.now ws n s,putB d.now ws n s,[],f,false⟩)∧(d.fuse=-1→f=-1))∨
 (d.fuse≠-1∧∃d',d.puts ws n s=(10,d')∧
  ((∃a b,ws=a++b∧d'.kept=d.kept∧d'.wait=d.wait++zDt a)∨(d'.kept=zAt d.now ws∧(d'.wait=[]∨d'.wait=[(n,zAK s)])))):=by
 unfold Dk.puts;rcases zN6 ws d hd hw with ⟨f,e,hf⟩ | ⟨hn',d',a,b,e1,e2,e3,e4⟩
 ·rw [e,if_pos rfl];dsimp only;rcases zFv (d:=⟨d.kept,zAt d.now ws,d.wait++zDt ws,f,false⟩) rfl with ⟨h1,h2⟩ | ⟨f2,h1,h2⟩
  ·right;refine ⟨fun x=>h1 (hf x),?_⟩;rw [h2,if_neg (by simp)];exact ⟨_,rfl,.inl ⟨ws,[],by simp,rfl,rfl⟩⟩
  ·rw [h1,if_pos rfl];dsimp only at h2 ⊢;rcases zFb (d:=⟨zAt d.now ws,zAt d.now ws,[],f2,false⟩) (n:=n) (s:=s) rfl (by dsimp only;rw [zBZ];omega) hs with ⟨h3,h4⟩ | ⟨f3,h3,h4⟩
   ·right;refine ⟨fun x=>h3 (h2 (hf x)),?_⟩;rw [h4,if_neg (by simp)];exact ⟨_,rfl,.inr ⟨rfl,.inl rfl⟩⟩
   ·rw [h3,if_pos rfl];dsimp only at h4 ⊢;rcases zFv (d:=⟨zAt d.now ws,(zAt d.now ws).set n (zAK s),[]++[(n,zAK s)],f3,false⟩) rfl with ⟨h5,h6⟩ | ⟨f4,h5,h6⟩
    ·right;refine ⟨fun x=>h5 (h4 (h2 (hf x))),_,h6,.inr ⟨rfl,.inr rfl⟩⟩
    ·left;exact ⟨f4,h5,fun x=>h6 (h4 (h2 (hf x)))⟩
 ·right;refine ⟨hn',d',?_,.inl ⟨a,b,e2,e3,e4⟩⟩;rw [e1,if_neg (by simp)]
structure Calm (d:Dk):Prop where
 up:d.down=false
 kept:d.kept=d.now
 wait:d.wait=[]
theorem DkOk.puts {k j:Nat} {d:Dk} (h:DkOk k j d) (ws:List (Nat×ByteArray)) (n:Nat) (s:ByteArray):DkOk k (j+ws.length+1) (d.puts ws n s).2:=by
 have h1:=h.lays ws;unfold Dk.puts;split
 ·split
  ·split
   ·exact ((h1.flush.write _ _).flush).mono (by omega)
   ·exact (h1.flush.write _ _).mono (by omega)
  ·exact h1.flush.mono (by omega)
 ·exact h1.mono (by omega)
theorem zSu {B:List ByteArray} {ws:List (Nat×ByteArray)} {n:Nat} {s:ByteArray} (hB:∀s∈B,s.size=96) (hw:∀t∈ws,t.2.size≤96) (hs:s.size≤96):∀x∈putB B ws n s,x.size=96:=
 zGN (zFa _ _ hB hw) (zB2 _ hs)
structure DkFell (k:Nat) (d:Dk):Prop extends DkOk k 2000 d where
 dn:d.down=true
theorem zOD (d:Dk):d.step.1=0∨d.step.2.down=true:=by
 unfold Dk.step;by_cases h:d.down=true
 ·rw [if_pos h];exact .inr h
 ·rw [if_neg h];by_cases h2:d.fuse=0
  ·rw [if_pos h2];exact .inr rfl
  ·rw [if_neg h2];exact .inl rfl
theorem zLq (d:Dk) (n:Int) (s:ByteArray):(d.writeR n s).1≠10∨(d.writeR n s).2.down=true:=by
 unfold Dk.writeR;by_cases h:n<0∨d.now.length≤n∨96<s.size
 ·rw [if_pos h];exact .inl (by simp)
 ·rw [if_neg h];by_cases h2:d.step.1=0
  ·rw [if_pos h2];exact .inl (by simp)
  ·rw [if_neg h2];exact .inr ((zOD d).resolve_left h2)
theorem zM7 (d:Dk):d.flush.1≠10∨d.flush.2.down=true:=by
 unfold Dk.flush;by_cases h2:d.step.1=0
 ·rw [if_pos h2];exact .inl (by simp)
 ·rw [if_neg h2];exact .inr ((zOD d).resolve_left h2)
theorem zOE:∀(ws:List (Nat×ByteArray)) (d:Dk),(d.lays ws).1≠10∨(d.lays ws).2.down=true
 | [],d=>.inl (by simp [Dk.lays])
 | t::l,d=>by
  rw [Dk.lays];split
  ·exact zOE l _
  ·exact zLq _ _ _
theorem zSd (d:Dk) (ws:List (Nat×ByteArray)) (n:Nat) (s:ByteArray):(d.puts ws n s).1≠10∨(d.puts ws n s).2.down=true:=by
 unfold Dk.puts;split
 ·split
  ·split
   ·exact zM7 _
   ·exact zLq _ _ _
  ·exact zM7 _
 ·exact zOE _ _
theorem zJ8 {k:Nat} {d:Dk} {ws:List (Nat×ByteArray)} {n:Nat} {s:ByteArray} (hc:Calm d) (hok:DkOk k 1000 d) (hf:∀s∈d.now,s.size=96) (hw:∀t∈ws,t.1<d.now.length∧t.2.size≤96) (hn:n<d.now.length) (hs:s.size≤96) (hl:ws.length≤900) :
 (∃d',d.puts ws n s=(0,d')∧Calm d'∧DkOk k 1000 d'∧d'.now=putB d.now ws n s∧(d.fuse=-1→d'.fuse=-1))∨
 (d.fuse≠-1∧∃d',d.puts ws n s=(10,d')∧DkFell k d'∧∀K:Int,Calm (d'.restart K)∧DkOk k 1000 (d'.restart K)∧(d'.restart K).fuse=-1∧(∀s∈(d'.restart K).now,s.size=96)∧(d'.restart K).now.length=d.now.length∧
  (Mix d.now (d'.restart K).now ws∨(d'.restart K).now=putB d.now ws n s)):=by
 rcases zQE hc.up hw hn hs with ⟨f,e,hfu⟩ | ⟨hne,d',e,hways⟩
 ·left;refine ⟨_,e,⟨rfl,rfl,rfl⟩,?_,rfl,hfu⟩;have h2:=hok.puts ws n s;rw [e] at h2;exact ⟨h2.now,h2.kept,h2.f1,h2.f2,Nat.zero_le _,h2.ats⟩
 ·right;have h2:=hok.puts ws n s;rw [e] at h2;have hkw:(∀s∈d'.kept,s.size=96)∧(∀t∈d'.wait,t.2.size=96)∧d'.wait.length≤1000∧d'.kept.length=d.now.length:=by
   rcases hways with ⟨a,b,e1,e2,e3⟩ | ⟨e1,e2⟩
   ·refine ⟨by rw [e2,hc.kept];exact hf,?_,?_,by rw [e2,hc.kept]⟩
    ·rw [e3,hc.wait,List.nil_append];exact zSH fun t ht=>(hw t (by rw [e1];exact List.mem_append_left _ ht)).2
    ·rw [e3,hc.wait,List.nil_append];rw [e1,List.length_append] at hl;simp only [zDt,List.length_map];omega
   ·refine ⟨by rw [e1];exact zFa _ _ hf fun t ht=>(hw t ht).2,?_,?_,by rw [e1,zBZ]⟩
    ·rcases e2 with e2 | e2
     ·rw [e2];exact fun t ht=>by cases ht
     ·rw [e2];exact fun t ht=>by rw [List.mem_singleton.1 ht];exact zB2 _ hs
    ·rcases e2 with e2 | e2<;>rw [e2]<;>simp
  have h4:DkOk k 1000 d':=⟨h2.now,h2.kept,h2.f1,h2.f2,hkw.2.2.1,h2.ats⟩
  refine ⟨hne,d',e,⟨h4.mono (by omega),by have h9:=zSd d ws n s;rw [e] at h9;exact h9.resolve_left fun h=>h rfl⟩,fun K=>⟨⟨rfl,rfl,rfl⟩,h4.restart K,rfl,zG3 _ hkw.1 hkw.2.1 _,?_,?_⟩⟩
  ·show (zAe _ _ _ _).length=_;rw [zBj,hkw.2.2.2]
  ·rcases hways with ⟨a,b,e1,e2,e3⟩ | ⟨e1,e2⟩
   ·left;show Mix d.now (zAe _ _ _ _) ws;rw [e3,e2,hc.kept,hc.wait,List.nil_append];exact (zFs _ _ a _).mono fun t ht=>by rw [e1];exact List.mem_append_left _ ht
   ·have hmx:Mix d.now (zAt d.now ws) ws:=Mix.sets _ _ (fun _ h=>h) (Mix.refl _ _);rcases e2 with e2 | e2
    ·left;show Mix d.now (zAe _ _ _ _) ws;rw [e2,e1];exact hmx
    ·have hx:zAe (zLI K) [(n,zAK s)] (zAt d.now ws) 1=(zAt d.now ws).set n (zAK s)∨zAe (zLI K) [(n,zAK s)] (zAt d.now ws) 1=zAt d.now ws:=by
      unfold zAe zAe;dsimp only [List.getElem?_cons_zero];split
      ·exact .inl rfl
      ·exact .inr rfl
     rcases hx with hx | hx
     ·right;show zAe _ _ _ _=_;rw [e2,e1];exact hx
     ·left;show Mix d.now (zAe _ _ _ _) ws;rw [e2,e1];show Mix d.now (zAe _ _ _ 1) ws;rw [hx];exact hmx
def FreeB (B:List ByteArray) (frm many first u:Nat):Prop:=∀j s,u≤j→j<many→B[frm+j]?=some s→zBU (first+j) s=none
def OldB (B:List ByteArray) (frm many first:Nat):Prop:=∀j s,j<many→B[frm+j]?=some s→∀n,first+j<n→n<16777216→zBU n s=none
theorem zRS {n m:Nat} (hn:n<16777216) (hm:m<16777216) (h:four n=four m):n=m:=by
 have hd:=congrArg (fun s:ByteArray=>s.data.toList) h;unfold four at hd;dsimp only at hd;injection hd with a1 hd
 injection hd with a2 hd
 injection hd with a3 hd
 have b1:=congrArg UInt8.toNat a1;have b2:=congrArg UInt8.toNat a2;have b3:=congrArg UInt8.toNat a3;rw [UInt8.toNat_ofNat',UInt8.toNat_ofNat'] at b1 b2 b3;omega
theorem zHh {k:UInt8} {n m:Nat} {s:ByteArray} (hn:n<16777216) (hm:m<16777216) (hnm:m≠n):zBU n (zAK (secB k m s))=none:=by
 have hl:=zLK k m s;generalize zAK (secB k m s)=f at *;have x1:f.extract 1 5=four m:=zAS (by
  rw [ByteArray.data_extract,Array.toList_extract,List.extract_eq_take_drop,hl];rfl)
 unfold zBU;split
 ·rw [if_neg];rintro ⟨h,_⟩;rw [x1] at h;exact hnm (zRS hm hn h)
 ·rfl
theorem zKG (first u:Nat) (W:List (List Ch)):∀(m:List ByteArray) (l:List Ch) (i:Nat) (deed:List Ch),(∀c∈l,ChOk c)→
 (∀k s,m[k]?=some s→zBU (first+i+k) s=none∨∃c,l[k]?=some c∧s=zAK (secB 111 (first+i+k) (zAZ c)))→scan first i m W deed u=(W,u)
 | [],l,i,deed,hl,h=>by rw [scan]
 | s::m,l,i,deed,hl,h=>by
  rcases h 0 s rfl with e | ⟨c,e1,e2⟩
  ·exact zEJ e
  ·cases l with
   | nil=>cases e1
   | cons c' l=>
    injection e1 with e1
    subst e1;have hc:=hl c' (List.mem_cons_self ..);rw [show s=zAK (secB 111 (first+i) (zAZ c')) from e2,zEI (zGj 111 (first+i) (zAZ c') (.inl rfl) (zES hc)) (zJH (zHY hc) hc)];refine zKG first u W m l (i+1) (deed++[c']) (fun x hx=>hl x (List.mem_cons_of_mem _ hx)) fun k s hk=>?_
    rcases h (k+1) s (by simpa using hk) with e | ⟨c,e1,e2⟩
    ·left;rw [show first+(i+1)+k=first+i+(k+1) from by omega];exact e
    ·refine .inr ⟨c,by simpa using e1,?_⟩;rw [e2,show first+i+(k+1)=first+(i+1)+k from by omega]
theorem zQQ {frm many first u:Nat} {W:List (List Ch)} {B K:List ByteArray} {l:List Ch} (hl:∀c∈l,ChOk c) (h1:1≤first) (hb:first+many≤16777216)
 (hsc:scan first 0 (secs B frm many) [] [] 0=(W,u)) (hz:FreeB B frm many first u) (hlen:frm+many≤B.length) (hk:K.length=B.length) (hm:Mix B K (lws frm many first u l)) :
 scan first 0 (secs K frm many) [] [] 0=(W,u):=by
 have hu:=(zGf hsc rfl).1;rw [zDF hlen] at hu;rw [zKM hsc (fun j hj=>?_)]
 ·refine zKG first u W _ l u [] hl fun k s hs=>?_
  rw [List.getElem?_drop,zCf] at hs;split at hs
  ·rename_i hj;rcases hm (frm+(u+k)) with h | ⟨t,h,e⟩
   ·rw [h] at hs;left;rw [show first+u+k=first+(u+k) from by omega];exact hz _ _ (by omega) hj hs
   ·rw [e] at hs;injection hs with hs
    rcases zFU h with ⟨k',c,e1,e2,e3⟩ | ⟨e1,e2,e3⟩
    ·obtain rfl:k'=k:=by omega
     exact .inr ⟨c,e1,by rw [←hs,e3]⟩
    ·left;rw [←hs,e3,zED];exact zCn _ (by omega) (by omega)
  ·cases hs
 ·rcases hm (frm+j) with h | ⟨t,h,e⟩
  ·exact h
  ·rcases zFU h with ⟨k',c,e1,e2,e3⟩ | ⟨e1,e2,e3⟩<;>omega
theorem OldB.mix {frm many first u:Nat} {B K:List ByteArray} {l:List Ch} (h:OldB B frm many first) (h1:1≤first) (hm:Mix B K (lws frm many first u l)) (hb:first+many≤16777216):OldB K frm many first:=by
 intro j s hj hs n hn hn2;rcases hm (frm+j) with e | ⟨t,ht,e⟩
 ·rw [e] at hs;exact h j s hj hs n hn hn2
 ·rw [e] at hs;injection hs with hs
  rcases zFU ht with ⟨k',c,e1,e2,e3⟩ | ⟨e1,e2,e3⟩
  ·rw [←hs,e3];exact zHh hn2 (by omega) (by omega)
  ·rw [←hs,e3,zED];exact zCn _ (by omega) hn2
theorem OldB.added {frm many first u:Nat} {B:List ByteArray} {l:List Ch} (h:OldB B frm many first) (h1:1≤first) (hb:first+many≤16777216):OldB (added B frm many first u l) frm many first:=by
 have h2:OldB (zAt B (lws frm many first u l)) frm many first:=h.mix h1 (Mix.sets _ _ (fun _ h=>h) (Mix.refl _ _)) hb;intro j s hj hs n hn hn2;unfold Go.Proofs.YtagcmjmcjpjihaaGreatDoor.added at hs;by_cases e:frm+(u+l.length)=frm+j
 ·by_cases hlt:frm+j<(zAt B (lws frm many first u l)).length
  ·rw [e,List.getElem?_set_self hlt] at hs;injection hs with hs
   rw [←hs];exact zHh hn2 (by omega) (by omega)
  ·rw [List.getElem?_eq_none (by rw [List.length_set];omega)] at hs;cases hs
 ·rw [List.getElem?_set_ne e] at hs;exact h2 j s hj hs n hn hn2
theorem FreeB.added {frm many first u:Nat} {B:List ByteArray} {l:List Ch} (h:FreeB B frm many first u) (h1:1≤first) (hb:first+many≤16777216) (hu:u+l.length+1≤many) (hlen:frm+many≤B.length):FreeB (added B frm many first u l) frm many first (u+l.length+1):=by
 intro j s hj hj2 hs;rw [zGJ hu hlen,if_neg (by omega),if_neg (by omega),if_neg (by omega)] at hs;split at hs
 ·injection hs with hs
  rw [←hs];exact zCn _ (by omega) (by omega)
 ·exact h j s (by omega) hj2 hs
theorem OldB.new {frm many first f2:Nat} {B:List ByteArray} (h:OldB B frm many first) (hf:first+many≤f2) (hb:f2+many≤16777216):FreeB B frm many f2 0∧OldB B frm many f2:=
 ⟨fun j s _ hj hs=>h j s hj hs _ (by omega) (by omega),fun j s hj hs n hn hn2=>h j s hj hs n (by omega) hn2⟩
theorem FreeB.scan {frm many first:Nat} {B:List ByteArray} (h:FreeB B frm many first 0) (hm:0<many) (hlen:frm+many≤B.length):scan first 0 (secs B frm many) [] [] 0=([],0):=by
 have hl:=zDF hlen;have hg:=zCf B frm many 0;rw [if_pos hm,Nat.add_zero] at hg;cases hs:secs B frm many with
 | nil=>rw [hs] at hl;simp at hl;omega
 | cons s r=>
  rw [hs] at hg;exact zEJ (h 0 s (Nat.le_refl _) hm (by rw [Nat.add_zero];exact hg.symm))
theorem zPR {frm many first k:Nat} (h1:1≤first) (hb:first+many≤16777216):FreeB (List.replicate k (zAn 96)) frm many first 0∧OldB (List.replicate k (zAn 96)) frm many first:=by
 have hz:∀j s,(List.replicate k (zAn 96))[j]?=some s→s=zAn 96:=fun j s hs=>(List.mem_replicate.1 (List.mem_of_getElem? hs)).2
 exact ⟨fun j s _ hj hs=>by rw [hz _ s hs];exact zCn _ (by omega) (by omega),fun j s hj hs n hn hn2=>by rw [hz _ s hs];exact zCn _ (by omega) hn2⟩
theorem zEZ (n:Nat) (w:World) (hn:n≤1000):Calls Tryz.prog 45 #[errV n] w fun e w'=>e=.returned (.int .i64 n)∧w'=w:=by
 cases n with
 | zero=>
  rw [show errV 0=.nilIface from rfl];go_enter Tryz.func45,Tryz.ntmps45;go_wp2;go_ret;exact ⟨rfl,rfl⟩
 | succ n=>
  rw [show errV (n+1)=.iface 124 (.int .i64 ((n+1:Nat):Int)) from rfl];generalize hm:n+1=m at *;have hm0:0<m:=by omega
  clear hm;go_enter Tryz.func45,Tryz.ntmps45;go_wp2;go_ret;exact ⟨rfl,rfl⟩
