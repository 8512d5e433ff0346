/- Texts Lg, Lg2, Log1, Log2, Log3, Log4, Log5, Log6, Log7, Log8 of this claim, laid together. -/
import Derived.Test.YtagcmjmcjpjihaaGreatDoorHC27
import Derived.Test.YtagcmjmcjpjihaaGreatDoorHC16
import Derived.Test.YtagcmjmcjpjihaaGreatDoorHC26
set_option linter.unusedVariables false
set_option linter.unusedSimpArgs false
set_option maxHeartbeats 8000000
set_option maxRecDepth 100000
namespace Go.Proofs.YtagcmjmcjpjihaaGreatDoor
open Go.RowKit
theorem at0 (a b:UInt8) (s:ByteArray) (h:0<((⟨#[a,b]⟩:ByteArray)++s).size):((⟨#[a,b]⟩:ByteArray)++s)[0]=a:=by
 rw [ByteArray.getElem_append_left (by show 0<2;omega)];rfl
theorem at1 (a b:UInt8) (s:ByteArray) (h:1<((⟨#[a,b]⟩:ByteArray)++s).size):((⟨#[a,b]⟩:ByteArray)++s)[1]=b:=by
 rw [ByteArray.getElem_append_left (by show 1<2;omega)];rfl
theorem zHY {c:Ch} (hc:ChOk c):Reads3 (zAZ c) c:=by
 have hk:=zBQ hc.1;obtain ⟨k,v,g⟩:=c;dsimp only at hk;have hsz:(zAZ ⟨k,v,g⟩).size=2+k.size+v.size:=by
  unfold zAZ;rw [ByteArray.size_append,ByteArray.size_append];rfl
 have e:zAZ ⟨k,v,g⟩=(⟨#[if g then 1 else 0,UInt8.ofNat k.size]⟩:ByteArray)++(k++v):=by
  unfold zAZ;rw [ByteArray.append_assoc]
 have h0:∀h:0<(zAZ ⟨k,v,g⟩).size,(zAZ ⟨k,v,g⟩)[0]=(if g then 1 else 0):=by rw [e];exact fun h=>at0 _ _ _ h
 have h1:∀h:1<(zAZ ⟨k,v,g⟩).size,(zAZ ⟨k,v,g⟩)[1]=UInt8.ofNat k.size:=by rw [e];exact fun h=>at1 _ _ _ h
 have hks:(UInt8.ofNat k.size).toNat=k.size:=by rw [UInt8.toNat_ofNat'];omega
 have x1:zAZ ⟨k,v,g⟩=((⟨#[if g then 1 else 0,UInt8.ofNat k.size]⟩:ByteArray)++k)++v:=rfl;refine ⟨by omega,?_,?_,?_,?_,?_⟩
 ·rw [h0 (by omega)];cases g<;>decide
 ·rw [h1 (by omega),hks];omega
 ·rw [h1 (by omega),hks];show k=_;rw [e];refine zAS ?_;rw [ByteArray.data_extract,Array.toList_extract,List.extract_eq_take_drop,zAB,zAB];show _=List.take (2+k.size-2) (List.drop 2 ([_,_]++(k.data.toList++v.data.toList)));rw [show 2+k.size-2=k.data.toList.length from by simp];simp
 ·rw [h1 (by omega),hks];show v=_;rw [hsz,x1];refine zAS ?_;rw [ByteArray.data_extract,Array.toList_extract,List.extract_eq_take_drop,zAB,zAB];have hl:([if g then (1:UInt8) else 0,UInt8.ofNat k.size]++k.data.toList).length=2+k.size:=by simp;try omega
  show _=List.take (2+k.size+v.size-(2+k.size)) (List.drop (2+k.size) (([if g then (1:UInt8) else 0,UInt8.ofNat k.size]++k.data.toList)++v.data.toList));rw [←hl,List.drop_left,List.take_of_length_le (by simp)]
 ·rw [h0 (by omega)];cases g<;>rfl
theorem zES {c:Ch} (hc:ChOk c):(zAZ c).size≤90:=by
 have hk:=zBQ hc.1;have hv:=hc.2.2;unfold zAZ;rw [ByteArray.size_append,ByteArray.size_append];show 2+_+_≤90;omega
def four (n:Nat):ByteArray:=⟨#[UInt8.ofNat n,UInt8.ofNat (n / 256),UInt8.ofNat (n / 65536),UInt8.ofNat (n / 16777216)]⟩
theorem zAw (n:Nat):(four n).size=4:=rfl
def secB (k:UInt8) (n:Nat) (s:ByteArray):ByteArray:=⟨#[k]⟩++four n++⟨#[UInt8.ofNat s.size]⟩++s
theorem zDZ (k:UInt8) (n:Nat) (s:ByteArray):(secB k n s).size=6+s.size:=by
 unfold secB;rw [ByteArray.size_append,ByteArray.size_append,ByteArray.size_append,zAw];show 1+4+1+s.size=_;omega
def zBU (n:Nat) (s:ByteArray):Option (Bool×ByteArray):=
 if h:6≤s.size then
  if s.extract 1 5=four n∧(s[0]=111∨s[0]=99)∧s[5].toNat≤90 then some (s[0]==99,s.extract 6 (6+s[5].toNat)) else none
 else none
theorem zB2 (s:ByteArray) (h:s.size≤96):(zAK s).size=96:=by
 unfold zAK;rw [ByteArray.size_append];show s.size+(zAn (96-s.size)).size=96;have:(zAn (96-s.size)).size=96-s.size:=by show (Array.replicate (96-s.size) (0:UInt8)).size=_;simp
 omega
theorem zLK (k:UInt8) (n:Nat) (s:ByteArray):(zAK (secB k n s)).data.toList=k::UInt8.ofNat n::UInt8.ofNat (n / 256)::UInt8.ofNat (n / 65536)::UInt8.ofNat (n / 16777216)::UInt8.ofNat s.size::(s.data.toList++(zAn (96-(secB k n s).size)).data.toList):=by
 unfold zAK secB four;rw [zAB,zAB,zAB,zAB];rfl
theorem zDx (s:ByteArray) (i:Nat) (h:i<s.size):s[i]=s.data.toList[i]'(by simpa using h):=rfl
theorem zGj (k:UInt8) (n:Nat) (s:ByteArray) (hk:k=111∨k=99) (hs:s.size≤90):zBU n (zAK (secB k n s))=some (k==99,s):=by
 have hsz:=zB2 (secB k n s) (by rw [zDZ];omega);have hl:=zLK k n s;generalize zAK (secB k n s)=f at *;have h6:6≤f.size:=by omega
 have g0:f[0]=k:=by rw [zDx];simp only [hl];rfl
 have g5:f[5]=UInt8.ofNat s.size:=by rw [zDx];simp only [hl];rfl
 have e5:(UInt8.ofNat s.size).toNat=s.size:=by rw [UInt8.toNat_ofNat'];omega
 have x1:f.extract 1 5=four n:=zAS (by
  rw [ByteArray.data_extract,Array.toList_extract,List.extract_eq_take_drop,hl];rfl)
 have x2:f.extract 6 (6+s.size)=s:=zAS (by
  rw [ByteArray.data_extract,Array.toList_extract,List.extract_eq_take_drop,hl,show 6+s.size-6=s.data.toList.length from by simp];simp)
 unfold zBU;rw [dif_pos h6];simp only [g0,g5,e5,x1,x2];rw [if_pos ⟨trivial,hk,hs⟩]
theorem zIi (n:Nat):(zAn n).data.toList=List.replicate n 0:=by unfold zAn;simp
theorem zCn (n:Nat) (h1:1≤n) (h2:n<16777216):zBU n (zAn 96)=none:=by
 unfold zBU;split
 ·rw [if_neg];rintro ⟨h,_⟩;have h:(zAn 96).extract 1 5=four n:=h;have hd:=congrArg (fun s:ByteArray=>s.data.toList) h;simp only [ByteArray.data_extract,Array.toList_extract,List.extract_eq_take_drop,zIi] at hd;unfold four at hd;simp only [List.replicate,List.drop,List.take] at hd;injection hd with a1 hd
  injection hd with a2 hd
  injection hd with a3 hd
  have b1:(UInt8.ofNat n).toNat=0:=by rw [←a1];rfl
  have b2:(UInt8.ofNat (n / 256)).toNat=0:=by rw [←a2];rfl
  have b3:(UInt8.ofNat (n / 65536)).toNat=0:=by rw [←a3];rfl
  rw [UInt8.toNat_ofNat'] at b1 b2 b3;omega
 ·rfl
theorem zPI {n:Nat} {s t:ByteArray} {b:Bool} (h:zBU n s=some (b,t)):t.size≤90:=by
 unfold zBU at h;split at h
 ·split at h
  ·rename_i hc;injection h with h
   injection h with _ h
   rw [←h,ByteArray.size_extract];have:=hc.2.2;omega
  ·cases h
 ·cases h
open Classical in
noncomputable def zCV (s:ByteArray):Option Ch:=if h:∃c,Reads3 s c∧ChOk c then some h.choose else none
theorem Reads3.unique {s:ByteArray} {c d:Ch} (h:Reads3 s c) (k:Reads3 s d):c=d:=by
 obtain ⟨k1,v1,g1⟩:=c;obtain ⟨k2,v2,g2⟩:=d;have e1:=h.key.trans k.key.symm;have e2:=h.val.trans k.val.symm;have e3:=h.gone.trans k.gone.symm;dsimp only at e1 e2 e3;rw [e1,e2,e3]
theorem zJH {s:ByteArray} {c:Ch} (h:Reads3 s c) (hc:ChOk c):zCV s=some c:=by
 have he:∃c,Reads3 s c∧ChOk c:=⟨c,h,hc⟩
 unfold zCV;rw [dif_pos he];exact congrArg some (he.choose_spec.1.unique h)
theorem zHe {s:ByteArray} {c:Ch} (h:zCV s=some c):Reads3 s c∧ChOk c:=by
 unfold zCV at h;split at h
 ·rename_i he;injection h with h
  rw [←h];exact he.choose_spec
 ·cases h
theorem zNV {s:ByteArray} (h:zCV s=none):¬∃c,Reads3 s c∧ChOk c:=by
 intro he;unfold zCV at h;rw [dif_pos he] at h;cases h
noncomputable def scan (first:Nat):Nat→List ByteArray→List (List Ch)→List Ch→Nat→List (List Ch)×Nat
 | _,[],out,_,used=>(out,used)
 | i,s::r,out,deed,used=>
  match zBU (first+i) s with
  | none=>(out,used)
  | some (true,t)=>if t=four deed.length then scan first (i+1) r (out++[deed]) [] (i+1) else (out,used)
  | some (false,t)=>match zCV t with
   | some c=>scan first (i+1) r out (deed++[c]) used
   | none=>(out,used)
theorem zEJ {first i:Nat} {s:ByteArray} {r:List ByteArray} {out:List (List Ch)} {deed:List Ch} {used:Nat} (h:zBU (first+i) s=none):scan first i (s::r) out deed used=(out,used):=by
 rw [scan,h]
theorem zDl {first i:Nat} {s:ByteArray} {r:List ByteArray} {out:List (List Ch)} {deed:List Ch} {used:Nat} {t:ByteArray} (h:zBU (first+i) s=some (true,t)) (ht:t=four deed.length) :
 scan first i (s::r) out deed used=scan first (i+1) r (out++[deed]) [] (i+1):=by
 rw [scan,h];simp only [ht,if_true]
theorem zMV {first i:Nat} {s:ByteArray} {r:List ByteArray} {out:List (List Ch)} {deed:List Ch} {used:Nat} {t:ByteArray} (h:zBU (first+i) s=some (true,t)) (ht:t≠four deed.length) :
 scan first i (s::r) out deed used=(out,used):=by
 rw [scan,h];simp only [ht,if_false]
theorem zEI {first i:Nat} {s:ByteArray} {r:List ByteArray} {out:List (List Ch)} {deed:List Ch} {used:Nat} {t:ByteArray} {c:Ch} (h:zBU (first+i) s=some (false,t)) (hc:zCV t=some c) :
 scan first i (s::r) out deed used=scan first (i+1) r out (deed++[c]) used:=by
 rw [scan,h];simp only [hc]
theorem zHR {first i:Nat} {s:ByteArray} {r:List ByteArray} {out:List (List Ch)} {deed:List Ch} {used:Nat} {t:ByteArray} (h:zBU (first+i) s=some (false,t)) (hc:zCV t=none) :
 scan first i (s::r) out deed used=(out,used):=by
 rw [scan,h];simp only [hc]
theorem zFL (first:Nat):∀(l:List ByteArray) (i:Nat) (out:List (List Ch)) (deed:List Ch) (used:Nat) (W:List (List Ch)) (u:Nat),used≤i→scan first i l out deed used=(W,u)→
 (u=used∧W=out)∨(i<u∧u≤i+l.length∧∀l':List ByteArray,l'.take (u-i)=l.take (u-i)→scan first i l' out deed used=scan first u (l'.drop (u-i)) W [] u)
 | [],i,out,deed,used,W,u,hu,h=>by
  rw [scan] at h;injection h with h1 h2
  exact .inl ⟨h2.symm,h1.symm⟩
 | s::r,i,out,deed,used,W,u,hu,h=>by
  have none:scan first i (s::r) out deed used=(out,used)→(u=used∧W=out):=fun e=>by
   rw [e] at h;injection h with h1 h2
   exact ⟨h2.symm,h1.symm⟩
  have cons:∀l':List ByteArray,∀k,l'.take (k+1)=(s::r).take (k+1)→∃r',l'=s::r'∧r'.take k=r.take k:=fun l' k e=>by
   cases l' with
   | nil=>simp at e
   | cons x r'=>
    simp only [List.take_succ_cons,List.cons.injEq] at e;exact ⟨r',by rw [e.1],e.2⟩
  cases hk:zBU (first+i) s with
  | none=>exact .inl (none (zEJ hk))
  | some p=>
   obtain ⟨b,t⟩:=p;cases b with
   | true=>
    by_cases ht:t=four deed.length
    ·rw [zDl hk ht] at h;right;rcases zFL first r (i+1) (out++[deed]) [] (i+1) W u (Nat.le_refl _) h with ⟨h1,h2⟩ | ⟨h1,h2,h3⟩
     ·subst h1;subst h2;refine ⟨by omega,by simp,fun l' e=>?_⟩;rw [show i+1-i=0+1 from by omega] at e ⊢;obtain ⟨r',rfl,_⟩:=cons l' 0 e;rw [zDl hk ht];rfl
     ·refine ⟨by omega,by simp;omega,fun l' e=>?_⟩;rw [show u-i=(u-(i+1))+1 from by omega] at e ⊢;obtain ⟨r',rfl,e2⟩:=cons l' _ e;rw [zDl hk ht,List.drop_succ_cons];exact h3 r' e2
    ·exact .inl (none (zMV hk ht))
   | false=>
    cases hc:zCV t with
    | none=>exact .inl (none (zHR hk hc))
    | some c=>
     rw [zEI hk hc] at h;rcases zFL first r (i+1) out (deed++[c]) used W u (by omega) h with ⟨h1,h2⟩ | ⟨h1,h2,h3⟩
     ·exact .inl ⟨h1,h2⟩
     ·right;refine ⟨by omega,by simp;omega,fun l' e=>?_⟩;rw [show u-i=(u-(i+1))+1 from by omega] at e ⊢;obtain ⟨r',rfl,e2⟩:=cons l' _ e;rw [zEI hk hc,List.drop_succ_cons];exact h3 r' e2
theorem zGf {first:Nat} {l l':List ByteArray} {W:List (List Ch)} {u:Nat} (h:scan first 0 l [] [] 0=(W,u)) (hl:l'.take u=l.take u):u≤l.length∧scan first 0 l' [] [] 0=scan first u (l'.drop u) W [] u:=by
 rcases zFL first l 0 [] [] 0 W u (Nat.le_refl _) h with ⟨rfl,rfl⟩ | ⟨h1,h2,h3⟩
 ·exact ⟨Nat.zero_le _,rfl⟩
 ·exact ⟨by omega,h3 l' (by simpa using hl)⟩
def zDL (first:Nat):Nat→List Ch→List ByteArray
 | _,[]=>[]
 | i,c::l=>zAK (secB 111 (first+i) (zAZ c))::zDL first (i+1) l
theorem zGt (first:Nat):∀(i:Nat) (l:List Ch),(zDL first i l).length=l.length
 | _,[]=>rfl
 | i,_::l=>by rw [zDL,List.length_cons,List.length_cons,zGt]
theorem zJN (first:Nat):∀(l:List Ch) (i:Nat) (r:List ByteArray) (out:List (List Ch)) (deed:List Ch) (used:Nat),(∀c∈l,ChOk c)→
 scan first i (zDL first i l++r) out deed used=scan first (i+l.length) r out (deed++l) used
 | [],i,r,out,deed,used,_=>by rw [zDL,List.nil_append,List.append_nil];rfl
 | c::l,i,r,out,deed,used,h=>by
  have hc:=h c (List.mem_cons_self ..);rw [zDL,List.cons_append,zEI (zGj 111 (first+i) (zAZ c) (.inl rfl) (zES hc)) (zJH (zHY hc) hc),
   zJN first l (i+1) r out (deed++[c]) used fun x hx=>h x (List.mem_cons_of_mem _ hx),List.append_assoc,List.length_cons]
  rw [show i+1+l.length=i+(l.length+1) from by omega];rfl
def csec (first i n:Nat):ByteArray:=zAK (secB 99 (first+i) (four n))
theorem zQw {first u:Nat} (l:List Ch) (r:List ByteArray) (W:List (List Ch)) (h:∀c∈l,ChOk c) (hr:r=[]∨∃s r',r=s::r'∧zBU (first+(u+l.length+1)) s=none) :
 scan first u (zDL first u l++csec first (u+l.length) l.length::r) W [] u=(W++[l],u+l.length+1):=by
 rw [zJN first l u _ W [] u h,List.nil_append];unfold csec;rw [zDl (zGj 99 (first+(u+l.length)) (four l.length) (.inr rfl) (by rw [zAw];omega)) rfl];rcases hr with rfl | ⟨s,r',rfl,hs⟩
 ·rw [scan]
 ·exact zEJ hs
def Dk.lays (d:Dk):List (Nat×ByteArray)→Nat×Dk
 | []=>(0,d)
 | t::l=>if (d.writeR t.1 t.2).1=0 then (d.writeR t.1 t.2).2.lays l else d.writeR t.1 t.2
theorem zFJ (b:List (Nat×ByteArray)):∀(a:List (Nat×ByteArray)) (d:Dk),d.lays (a++b)=if (d.lays a).1=0 then (d.lays a).2.lays b else d.lays a
 | [],d=>by simp [Dk.lays]
 | t::a,d=>by
  rw [List.cons_append,Dk.lays,Dk.lays];by_cases h:(d.writeR t.1 t.2).1=0
  ·rw [if_pos h,if_pos h,zFJ b a]
  ·rw [if_neg h,if_neg h,if_neg h]
def ows (p n:Nat):List Ch→List (Nat×ByteArray)
 | []=>[]
 | c::l=>(p,secB 111 n (zAZ c))::ows (p+1) (n+1) l
theorem zFk:∀(a b:List Ch) (p n:Nat),ows p n (a++b)=ows p n a++ows (p+a.length) (n+a.length) b
 | [],b,p,n=>rfl
 | c::a,b,p,n=>by
  rw [List.cons_append,ows,ows,List.cons_append,zFk a b,List.length_cons];rw [show p+1+a.length=p+(a.length+1) from by omega,show n+1+a.length=n+(a.length+1) from by omega]
def lws (frm many first u:Nat) (l:List Ch):List (Nat×ByteArray):=
 ows (frm+u) (first+u) l++if u+l.length+1<many then [(frm+(u+l.length+1),(⟨#[]⟩:ByteArray))] else []
def Dk.addD (d:Dk) (frm many first u:Nat) (l:List Ch):Nat×Dk:=
 if (d.lays (lws frm many first u l)).1=0 then
  if (d.lays (lws frm many first u l)).2.flush.1=0 then
   if ((d.lays (lws frm many first u l)).2.flush.2.writeR ((frm+(u+l.length):Nat):Int) (secB 99 (first+(u+l.length)) (four l.length))).1=0 then
    ((d.lays (lws frm many first u l)).2.flush.2.writeR ((frm+(u+l.length):Nat):Int) (secB 99 (first+(u+l.length)) (four l.length))).2.flush
   else (d.lays (lws frm many first u l)).2.flush.2.writeR ((frm+(u+l.length):Nat):Int) (secB 99 (first+(u+l.length)) (four l.length))
  else (d.lays (lws frm many first u l)).2.flush
 else d.lays (lws frm many first u l)
theorem zN8 {q:Nat} {t:ByteArray}:∀(l:List Ch) (p n:Nat),(q,t)∈ows p n l→∃k c,l[k]?=some c∧q=p+k∧t=secB 111 (n+k) (zAZ c)
 | [],p,n,h=>by cases h
 | c::l,p,n,h=>by
  rw [ows] at h;rcases List.mem_cons.1 h with h | h
  ·injection h with h1 h2
   exact ⟨0,c,rfl,by omega,h2⟩
  ·obtain ⟨k,c',h1,h2,h3⟩:=zN8 l (p+1) (n+1) h;exact ⟨k+1,c',by simpa using h1,by omega,by rw [h3,show n+1+k=n+(k+1) from by omega]⟩
theorem zFU {q:Nat} {t:ByteArray} {frm many first u:Nat} {l:List Ch} (h:(q,t)∈lws frm many first u l) :
 (∃k c,l[k]?=some c∧q=frm+u+k∧t=secB 111 (first+u+k) (zAZ c))∨(q=frm+(u+l.length+1)∧u+l.length+1<many∧t=⟨#[]⟩):=by
 unfold lws at h;rcases List.mem_append.1 h with h | h
 ·exact .inl (zN8 l _ _ h)
 ·split at h
  ·rename_i hm;rw [List.mem_singleton] at h;injection h with h1 h2
   exact .inr ⟨h1,hm,h2⟩
  ·cases h
theorem zJW {frm many first u:Nat} {l:List Ch} (hl:∀c∈l,ChOk c) (hu:u+l.length+1≤many):∀t∈lws frm many first u l,t.1<frm+many∧t.2.size≤96:=by
 rintro ⟨q,t⟩ h;rcases zFU h with ⟨k,c,h1,h2,h3⟩ | ⟨h1,h2,h3⟩
 ·obtain ⟨hk,h1⟩:=List.getElem?_eq_some_iff.1 h1;have:=zES (hl c (h1 ▸ List.getElem_mem hk));refine ⟨by dsimp only;omega,?_⟩;dsimp only;rw [h3,zDZ];omega
 ·exact ⟨by dsimp only;omega,by dsimp only;rw [h3];exact Nat.zero_le _⟩
def zAt (B:List ByteArray) (ws:List (Nat×ByteArray)):List ByteArray:=ws.foldl (fun b t=>b.set t.1 (zAK t.2)) B
def zDt (ws:List (Nat×ByteArray)):List (Nat×ByteArray):=ws.map fun t=>(t.1,zAK t.2)
theorem zBZ:∀(ws:List (Nat×ByteArray)) (B:List ByteArray),(zAt B ws).length=B.length
 | [],B=>rfl
 | t::ws,B=>by
  show (zAt (B.set t.1 (zAK t.2)) ws).length=_;rw [zBZ ws,List.length_set]
theorem zOX {d:Dk} (hd:d.down=false):(d.fuse≠-1∧d.step=(10,{ d with down:=true,fuse:=-1 }))∨∃f,d.step=(0,⟨d.kept,d.now,d.wait,f,false⟩)∧(d.fuse=-1→f=-1):=by
 obtain ⟨kept,now,wait,fuse,down⟩:=d;dsimp only at hd;subst hd;unfold Dk.step;dsimp only;by_cases h:fuse=0
 ·left;refine ⟨by omega,?_⟩;simp [h]
 ·right;refine ⟨zGQ fuse,by simp [h],fun e=>by rw [e];rfl⟩
theorem zFb {d:Dk} {n:Nat} {s:ByteArray} (hd:d.down=false) (hn:n<d.now.length) (hs:s.size≤96) :
 (d.fuse≠-1∧d.writeR n s=(10,{ d with down:=true,fuse:=-1 }))∨∃f,d.writeR n s=(0,⟨d.kept,d.now.set n (zAK s),d.wait++[(n,zAK s)],f,false⟩)∧(d.fuse=-1→f=-1):=by
 have hb:¬((n:Int)<0∨(d.now.length:Int)≤n∨96<s.size):=by omega
 rcases zOX hd with ⟨h1,h2⟩ | ⟨f,h1,h2⟩
 ·left;refine ⟨h1,?_⟩;unfold Dk.writeR;rw [if_neg hb,h2];rfl
 ·right;refine ⟨f,?_,h2⟩;unfold Dk.writeR;rw [if_neg hb,h1,if_pos rfl];rfl
theorem zFv {d:Dk} (hd:d.down=false):(d.fuse≠-1∧d.flush=(10,{ d with down:=true,fuse:=-1 }))∨∃f,d.flush=(0,⟨d.now,d.now,[],f,false⟩)∧(d.fuse=-1→f=-1):=by
 rcases zOX hd with ⟨h1,h2⟩ | ⟨f,h1,h2⟩
 ·left;refine ⟨h1,?_⟩;unfold Dk.flush;rw [h2];rfl
 ·right;refine ⟨f,?_,h2⟩;unfold Dk.flush;rw [h1,if_pos rfl]
theorem zN6:∀(ws:List (Nat×ByteArray)) (d:Dk),d.down=false→(∀t∈ws,t.1<d.now.length∧t.2.size≤96)→
 (∃f,d.lays ws=(0,⟨d.kept,zAt d.now ws,d.wait++zDt ws,f,false⟩)∧(d.fuse=-1→f=-1))∨
 (d.fuse≠-1∧∃d' a b,d.lays ws=(10,d')∧ws=a++b∧d'.kept=d.kept∧d'.wait=d.wait++zDt a)
 | [],d,hd,h=>by
  left;refine ⟨d.fuse,?_,fun h=>h⟩;obtain ⟨kept,now,wait,fuse,down⟩:=d;dsimp only at hd;subst hd;simp [Dk.lays,zAt,zDt]
 | t::ws,d,hd,h=>by
  have ht:=h t (List.mem_cons_self ..);rw [Dk.lays];rcases zFb hd ht.1 ht.2 with ⟨h1,h2⟩ | ⟨f,h1,h2⟩
  ·right;rw [h2,if_neg (by simp)];exact ⟨h1,_,[],t::ws,rfl,rfl,rfl,by simp [zDt]⟩
  ·rw [h1,if_pos rfl];dsimp only;rcases zN6 ws ⟨d.kept,d.now.set t.1 (zAK t.2),d.wait++[(t.1,zAK t.2)],f,false⟩ rfl (fun x hx=>by
    dsimp only;rw [List.length_set];exact h x (List.mem_cons_of_mem _ hx)) with ⟨g,e,hg⟩ | ⟨hn,d',a,b,e1,e2,e3,e4⟩
   ·left;refine ⟨g,?_,fun x=>hg (h2 x)⟩;rw [e];dsimp only;rw [List.append_assoc];rfl
   ·right;refine ⟨fun x=>hn (h2 x),d',t::a,b,e1,by rw [e2];rfl,e3,?_⟩;rw [e4];dsimp only;rw [List.append_assoc];rfl
def Mix (B K:List ByteArray) (ws:List (Nat×ByteArray)):Prop:=∀j,K[j]?=B[j]?∨∃s,(j,s)∈ws∧K[j]?=some (zAK s)
theorem Mix.refl (B:List ByteArray) (ws:List (Nat×ByteArray)):Mix B B ws:=fun j=>.inl rfl
theorem Mix.set {B K:List ByteArray} {ws:List (Nat×ByteArray)} (h:Mix B K ws) {n:Nat} {s:ByteArray} (hs:(n,s)∈ws):Mix B (K.set n (zAK s)) ws:=fun j=>by
 by_cases e:n=j
 ·subst e;by_cases hn:n<K.length
  ·exact .inr ⟨s,hs,by rw [List.getElem?_set_self hn]⟩
  ·rw [List.set_eq_of_length_le (by omega)];exact h n
 ·rw [List.getElem?_set_ne e];exact h j
theorem Mix.mono {B K:List ByteArray} {ws ws':List (Nat×ByteArray)} (h:Mix B K ws) (hw:∀t∈ws,t∈ws'):Mix B K ws':=fun j=>by
 rcases h j with h | ⟨s,h1,h2⟩
 ·exact .inl h
 ·exact .inr ⟨s,hw _ h1,h2⟩
theorem Mix.sets {ws:List (Nat×ByteArray)} {B:List ByteArray}:∀(v:List (Nat×ByteArray)) (K:List ByteArray),(∀t∈v,t∈ws)→Mix B K ws→Mix B (zAt K v) ws
 | [],K,_,h=>h
 | t::v,K,hv,h=>Mix.sets v (K.set t.1 (zAK t.2)) (fun x hx=>hv x (List.mem_cons_of_mem _ hx)) (h.set (hv t (List.mem_cons_self ..)))
theorem zFs (bit:Nat→Bool) (B:List ByteArray) (ws:List (Nat×ByteArray)):∀j,Mix B (zAe bit (zDt ws) B j) ws
 | 0=>Mix.refl B ws
 | j+1=>by
  unfold zAe;split
  ·rename_i a s hs;have hm:(a,s)∈zDt ws:=List.mem_of_getElem? hs;unfold zDt at hm;obtain ⟨t,ht,e⟩:=List.mem_map.1 hm;injection e with e1 e2
   split
   ·rw [←e1,←e2];exact (zFs bit B ws j).set ht
   ·exact zFs bit B ws j
  ·exact zFs bit B ws j
def secs (L:List ByteArray) (frm many:Nat):List ByteArray:=(L.drop frm).take many
theorem zCf (L:List ByteArray) (frm many j:Nat):(secs L frm many)[j]?=if j<many then L[frm+j]? else none:=by
 unfold secs;rw [List.getElem?_take];split
 ·rw [List.getElem?_drop]
 ·rfl
theorem zDF {L:List ByteArray} {frm many:Nat} (h:frm+many≤L.length):(secs L frm many).length=many:=by
 unfold secs;rw [List.length_take,List.length_drop];omega
theorem zKM {first frm many u:Nat} {B K:List ByteArray} {W:List (List Ch)} (h:scan first 0 (secs B frm many) [] [] 0=(W,u)) (hk:∀j,j<u→K[frm+j]?=B[frm+j]?) :
 scan first 0 (secs K frm many) [] [] 0=scan first u ((secs K frm many).drop u) W [] u:=by
 refine (zGf h ?_).2;apply List.ext_getElem?;intro j;rw [List.getElem?_take,List.getElem?_take];split
 ·rename_i hj;rw [zCf,zCf,hk j hj]
 ·rfl
theorem zIN (first u:Nat):∀(l:List Ch) (B:List ByteArray) (p i:Nat),p+l.length≤B.length→∀j,(zAt B (ows p (first+i) l))[j]?=if p≤j∧j<p+l.length then (zDL first i l)[j-p]? else B[j]?
 | [],B,p,i,h,j=>by
  rw [if_neg (by simp only [List.length_nil];omega)];rfl
 | c::l,B,p,i,h,j=>by
  rw [List.length_cons] at h;show (zAt (B.set p (zAK (secB 111 (first+i) (zAZ c)))) (ows (p+1) (first+i+1) l))[j]?=_;rw [show first+i+1=first+(i+1) from by omega,zIN first u l _ (p+1) (i+1) (by rw [List.length_set];omega) j,zDL,List.length_cons];by_cases hj:j=p
  ·subst hj;rw [if_neg (by omega),if_pos (by omega),List.getElem?_set_self (by omega),Nat.sub_self];rfl
  ·by_cases h2:p+1≤j∧j<p+1+l.length
   ·rw [if_pos h2,if_pos (by omega),show j-p=(j-(p+1))+1 from by omega,List.getElem?_cons_succ]
   ·rw [if_neg h2,if_neg (by omega),List.getElem?_set_ne (by omega)]
theorem zGR (B:List ByteArray) (a b:List (Nat×ByteArray)):zAt B (a++b)=zAt (zAt B a) b:=by unfold zAt;rw [List.foldl_append]
def added (B:List ByteArray) (frm many first u:Nat) (l:List Ch):List ByteArray:=(zAt B (lws frm many first u l)).set (frm+(u+l.length)) (csec first (u+l.length) l.length)
theorem zGX (B:List ByteArray) (frm many first u:Nat) (l:List Ch):(added B frm many first u l).length=B.length:=by unfold added;rw [List.length_set,zBZ]
theorem zGJ {B:List ByteArray} {frm many first u:Nat} {l:List Ch} (hu:u+l.length+1≤many) (hlen:frm+many≤B.length) (j:Nat) :
 (added B frm many first u l)[j]?=if j<frm+u then B[j]? else if j<frm+u+l.length then (zDL first u l)[j-(frm+u)]? else if j=frm+u+l.length then some (csec first (u+l.length) l.length)
  else if j=frm+u+l.length+1∧u+l.length+1<many then some (zAn 96) else B[j]?:=by
 have hs:∀j,(zAt B (lws frm many first u l))[j]?=if j=frm+u+l.length+1∧u+l.length+1<many then some (zAn 96) else if frm+u≤j∧j<frm+u+l.length then (zDL first u l)[j-(frm+u)]? else B[j]?:=fun j=>by
  unfold lws;rw [zGR];by_cases hm:u+l.length+1<many
  ·rw [if_pos hm];show ((zAt B (ows (frm+u) (first+u) l)).set (frm+(u+l.length+1)) (zAK ⟨#[]⟩))[j]?=_;by_cases hj:j=frm+u+l.length+1
   ·rw [if_pos ⟨hj,hm⟩,hj,show frm+(u+l.length+1)=frm+u+l.length+1 from by omega,List.getElem?_set_self (by rw [zBZ];omega),zED]
   ·rw [if_neg (by omega),List.getElem?_set_ne (by omega),zIN first u l B _ _ (by omega)]
  ·rw [if_neg hm,if_neg (by omega)];show (zAt B (ows (frm+u) (first+u) l))[j]?=_;rw [zIN first u l B _ _ (by omega)]
 unfold added;by_cases hj:j=frm+u+l.length
 ·rw [if_neg (by omega),if_neg (by omega),if_pos hj,show frm+(u+l.length)=j from by omega,List.getElem?_set_self (by rw [zBZ];omega)]
 ·rw [List.getElem?_set_ne (by omega),hs];by_cases h1:j<frm+u
  ·rw [if_neg (by omega),if_neg (by omega),if_pos h1]
  ·rw [if_neg h1];by_cases h2:j<frm+u+l.length
   ·rw [if_neg (by omega),if_pos (by omega),if_pos h2]
   ·rw [if_neg h2,if_neg hj];by_cases h3:j=frm+u+l.length+1∧u+l.length+1<many
    ·rw [if_pos h3,if_pos h3]
    ·rw [if_neg h3,if_neg h3,if_neg (by omega)]
theorem zOw {B:List ByteArray} {frm many first u:Nat} {W:List (List Ch)} {l:List Ch} (hl:∀c∈l,ChOk c) (h1:1≤first) (hb:first+many≤16777216) (hu:u+l.length+1≤many) (hlen:frm+many≤B.length)
 (hsc:scan first 0 (secs B frm many) [] [] 0=(W,u)):scan first 0 (secs (added B frm many first u l) frm many) [] [] 0=(W++[l],u+l.length+1):=by
 have hg:=zGJ (first:=first) hu hlen;have hL:=zGX B frm many first u l;generalize added B frm many first u l=K at *;rw [zKM hsc (fun j hj=>by rw [hg,if_pos (by omega)])];have hkl:(secs K frm many).length=many:=zDF (by omega);have e:(secs K frm many).drop u=zDL first u l++csec first (u+l.length) l.length::(secs K frm many).drop (u+l.length+1):=by
  apply List.ext_getElem?;intro k;have ho:=zGt first u l;rw [List.getElem?_drop,zCf];by_cases h2:k<l.length
  ·rw [if_pos (by omega),hg,if_neg (by omega),if_pos (by omega),List.getElem?_append_left (by omega),show frm+(u+k)-(frm+u)=k from by omega]
  ·rw [List.getElem?_append_right (by omega),ho];by_cases h3:k=l.length
   ·rw [h3,if_pos (by omega),hg,if_neg (by omega),if_neg (by omega),if_pos (by omega),Nat.sub_self];rfl
   ·rw [show k-l.length=(k-l.length-1)+1 from by omega,List.getElem?_cons_succ,List.getElem?_drop,zCf,show u+l.length+1+(k-l.length-1)=u+k from by omega]
 rw [e];refine zQw l _ W hl ?_;by_cases hm:u+l.length+1<many
 ·right;refine ⟨zAn 96,(secs K frm many).drop (u+l.length+2),?_,zCn _ (by omega) (by omega)⟩;rw [List.drop_eq_getElem_cons (by omega)]
  congr 1
  apply Option.some.inj;rw [←List.getElem?_eq_getElem,zCf,if_pos hm,hg,if_neg (by omega),if_neg (by omega),if_neg (by omega),if_pos (by omega)]
 ·left;apply List.drop_of_length_le;omega
theorem zKQ (a b c d:Int):([a,b,c,d]:List Int).foldl (fun r n=>r.push (UInt8.ofNat n.toNat)) ByteArray.empty=⟨#[UInt8.ofNat a.toNat,UInt8.ofNat b.toNat,UInt8.ofNat c.toNat,UInt8.ofNat d.toNat]⟩:=rfl
theorem zOe (n:Nat) {a b c d:Int} (ha:a.toNat % 256=n % 256) (hb:b.toNat % 256=n / 256 % 256) (hc:c.toNat % 256=n / 65536 % 256) (hd:d.toNat % 256=n / 16777216 % 256):(⟨#[UInt8.ofNat a.toNat,UInt8.ofNat b.toNat,UInt8.ofNat c.toNat,UInt8.ofNat d.toNat]⟩:ByteArray)=four n:=by
 have e:∀i j:Nat,i % 256=j % 256→UInt8.ofNat i=UInt8.ofNat j:=fun i j h=>UInt8.toNat_inj.1 (by rw [UInt8.toNat_ofNat',UInt8.toNat_ofNat'];exact h)
 unfold four;rw [e _ n ha,e _ (n / 256) hb,e _ (n / 65536) hc,e _ (n / 16777216) hd]
theorem zFV (n:Nat) (w:World) (hn:n≤2000000000):Calls Tryz.prog 218 #[.int .i64 n] w fun e w'=>e=.returned (.string (four n))∧Ext w w':=by
 have HY:=zOe n (a:=(n:Int) % 256) (b:=(n:Int) / 256 % 256) (c:=(n:Int) / 65536 % 256) (d:=(n:Int) / 16777216) (by omega) (by omega) (by omega) (by omega);have hsz:=zAw n;generalize four n=x at *;have hO:=Own.start w (fun _=>False);go_enter Tryz.func218,Tryz.ntmps218;go_wp2_with (first|(refine zAX hO (r:=Var _ [.int .u8 ((n:Int) % 256),.int .u8 ((n:Int) / 256 % 256),.int .u8 ((n:Int) / 65536 % 256),.int .u8 ((n:Int) / 16777216)] 5) pk_ rfl (.tmp 14) 244 9 5 rfl Tryz.underlying244 Tryz.intU8k Tryz.underlying9 _ 0 4 4 [((n:Int) % 256),((n:Int) / 256 % 256),((n:Int) / 65536 % 256),((n:Int) / 16777216)] rfl rfl (fun j u hj=>Var.at (t:=5) (hO.factOf (r:=Var _ [.int .u8 ((n:Int) % 256),.int .u8 ((n:Int) / 256 % 256),.int .u8 ((n:Int) / 65536 % 256),.int .u8 ((n:Int) / 16777216)] 5) pk_) j u hj) ?_;rw [zKQ,HY])|(refine sq_ ?_;clear hO;(try clear hf);intro w9 hO hf));go_ret;exact ⟨rfl,hO.toExt⟩
theorem zKd (m:Int):([m]:List Int).foldl (fun r n=>r.push (UInt8.ofNat n.toNat)) ByteArray.empty=⟨#[UInt8.ofNat m.toNat]⟩:=rfl
theorem zMP (k:Int) (n:Nat) (s:ByteArray) (w:World) (hk:k=111∨k=99) (hn:n≤2000000000) (hs:s.size≤90):Calls Tryz.prog 217 #[.int .u8 k,.int .i64 n,.string s] w fun e w'=>e=.returned (.string (secB (UInt8.ofNat k.toNat) n s))∧Ext w w':=by
 have hm:((s.size:Int) % 256)=s.size:=by omega
 have HD:=fun w=>zFV n w hn
 have h4:=zAw n;obtain ⟨x,hx⟩:∃x:ByteArray,x=⟨#[UInt8.ofNat k.toNat]⟩:=⟨_,rfl⟩
 obtain ⟨y,hy⟩:∃y:ByteArray,y=⟨#[UInt8.ofNat s.size]⟩:=⟨_,rfl⟩
 have hxs:x.size=1:=by rw [hx];rfl
 have hys:y.size=1:=by rw [hy];rfl
 have HFIN:=Lib.hid (show Ending.returned (.string (x++four n++y++s))=.returned (.string (secB (UInt8.ofNat k.toNat) n s)) from by rw [hx,hy];rfl);have HK:=Lib.hid hx.symm;have HL:=Lib.hid (show (⟨#[UInt8.ofNat (s.size:Int).toNat]⟩:ByteArray)=y from hy.symm);clear hx hy;generalize secB (UInt8.ofNat k.toNat) n s=fin at *;generalize four n=z at *;have hO:=Own.start w (fun _=>False);go_enter Tryz.func217,Tryz.ntmps217;go_wp2_with (refine sq_ ?_;clear hO;(try clear hf);intro w9 hO hf);refine zFP [0,3,5,6,8,11,12,13,14,1007] (.pure 0 <| .pure 3 <| .pure 6 <| .see 7 <| .pure 8 <| .pure 12 <| .fork3 1 (.fork3 2 (.fork 4 (.pure 5 <| .one 9 (.one 10 (.pure 11 <| .pure 13 <| .pure 14 <| .done))) 9 (.fork 4 (.pure 5 <| .one 10 (.pure 11 <| .pure 13 <| .pure 14 <| .done)) 10 (.one 4 (.pure 5 <| .pure 11 <| .pure 13 <| .pure 14 <| .done)))) 4 (.fork 2 (.pure 5 <| .one 9 (.one 10 (.pure 11 <| .pure 13 <| .pure 14 <| .done))) 9 (.fork 2 (.pure 5 <| .one 10 (.pure 11 <| .pure 13 <| .pure 14 <| .done)) 10 (.one 2 (.pure 5 <| .pure 11 <| .pure 13 <| .pure 14 <| .done)))) 9 (.fork3 2 (.fork 4 (.pure 5 <| .one 10 (.pure 11 <| .pure 13 <| .pure 14 <| .done)) 10 (.one 4 (.pure 5 <| .pure 11 <| .pure 13 <| .pure 14 <| .done))) 4 (.fork 2 (.pure 5 <| .one 10 (.pure 11 <| .pure 13 <| .pure 14 <| .done)) 10 (.one 2 (.pure 5 <| .pure 11 <| .pure 13 <| .pure 14 <| .done))) 10 (.fork 2 (.one 4 (.pure 5 <| .pure 11 <| .pure 13 <| .pure 14 <| .done)) 4 (.one 2 (.pure 5 <| .pure 11 <| .pure 13 <| .pure 14 <| .done))))) 4 (.fork 1 (.fork 2 (.pure 5 <| .one 9 (.one 10 (.pure 11 <| .pure 13 <| .pure 14 <| .done))) 9 (.fork 2 (.pure 5 <| .one 10 (.pure 11 <| .pure 13 <| .pure 14 <| .done)) 10 (.one 2 (.pure 5 <| .pure 11 <| .pure 13 <| .pure 14 <| .done)))) 9 (.fork 1 (.fork 2 (.pure 5 <| .one 10 (.pure 11 <| .pure 13 <| .pure 14 <| .done)) 10 (.one 2 (.pure 5 <| .pure 11 <| .pure 13 <| .pure 14 <| .done))) 10 (.one 1 (.one 2 (.pure 5 <| .pure 11 <| .pure 13 <| .pure 14 <| .done))))) 9 (.fork3 1 (.fork3 2 (.fork 4 (.pure 5 <| .one 10 (.pure 11 <| .pure 13 <| .pure 14 <| .done)) 10 (.one 4 (.pure 5 <| .pure 11 <| .pure 13 <| .pure 14 <| .done))) 4 (.fork 2 (.pure 5 <| .one 10 (.pure 11 <| .pure 13 <| .pure 14 <| .done)) 10 (.one 2 (.pure 5 <| .pure 11 <| .pure 13 <| .pure 14 <| .done))) 10 (.fork 2 (.one 4 (.pure 5 <| .pure 11 <| .pure 13 <| .pure 14 <| .done)) 4 (.one 2 (.pure 5 <| .pure 11 <| .pure 13 <| .pure 14 <| .done)))) 4 (.fork 1 (.fork 2 (.pure 5 <| .one 10 (.pure 11 <| .pure 13 <| .pure 14 <| .done)) 10 (.one 2 (.pure 5 <| .pure 11 <| .pure 13 <| .pure 14 <| .done))) 10 (.one 1 (.one 2 (.pure 5 <| .pure 11 <| .pure 13 <| .pure 14 <| .done)))) 10 (.fork 1 (.fork 2 (.one 4 (.pure 5 <| .pure 11 <| .pure 13 <| .pure 14 <| .done)) 4 (.one 2 (.pure 5 <| .pure 11 <| .pure 13 <| .pure 14 <| .done))) 4 (.one 1 (.one 2 (.pure 5 <| .pure 11 <| .pure 13 <| .pure 14 <| .done)))))) (by kernel_rfl) (by kernel_rfl) (fun _ _ d _ _ h=>by cases d<;>exact h) ?_;intro w9 hx9;replace hO:=hO.ext hx9;clear hx9;(replace hf:=fa_ hO);(refine pv_ ?_)
 repeat' (first
  | refine zMo rfl rfl rfl ?_ ?_ ?_
  | refine zFH rfl rfl ?_ ?_
  | refine zDq rfl ?_
  | (refine zBV ?_;go_wp2_with (refine sq_ ?_;clear hO hf;intro w9 hO hf);go_ret;exact ⟨HFIN.out,hO.toExt⟩)
  | (apply zBB _ rfl rfl rfl;focus (intro w8 K8 hK8;(repeat (first | go_skip | go_guarded | go_step));exact hK8))
  | (apply zBu _ rfl rfl rfl;focus (intro w8 hI8 K8 hK8;(repeat (first | go_skip | go_guarded | go_step));exact hK8))
  | (intro K8 hK8;(repeat (first | go_skip | go_guarded | go_step));with_reducible refine zAz hO ?_;clear hO;intro w9 hO;(replace hf:=fa_ hO))
  | (intro K8 hK8;refine zAX hO (r:=Var _ [.int .u8 k] 5) pk_ rfl (.tmp 8) 244 9 5 rfl Tryz.underlying244 Tryz.intU8k Tryz.underlying9 _ 0 1 1 [k] rfl rfl (fun j u hj=>Var.at (t:=5) (hO.factOf (r:=Var _ [.int .u8 k] 5) pk_) j u hj) ?_;rw [zKd,HK.out];(repeat go_step))
  | (intro K8 hK8;refine zAX hO (r:=Var _ [.int .u8 (s.size:Int)] 5) pk_ rfl (.tmp 16) 244 9 5 rfl Tryz.underlying244 Tryz.intU8k Tryz.underlying9 _ 0 1 1 [(s.size:Int)] rfl rfl (fun j u hj=>Var.at (t:=5) (hO.factOf (r:=Var _ [.int .u8 (s.size:Int)] 5) pk_) j u hj) ?_;rw [zKd,HL.out];(repeat go_step))
  | (intro K8 hK8;(repeat (first | go_skip | go_guarded | go_step));(go_at_call 218;(with_reducible apply Calls.mono (HD _);rintro e7 w7 ⟨rfl,hx7⟩;replace hO:=hO.ext hx7;clear hx7;dsimp only;(replace hf:=fa_ hO)));(repeat go_step)))
theorem Reads.frz1 {P:Program} {f:FuncId} {args:Array Value} {r:Rs} {v:Value} (h:Reads P f args [r] v):Reads P f args [.frz r] v:=fun w L0 hO=>h w L0 hO.frzFrz
def zFy (o:Option (Bool×ByteArray)):Value:=match o with
 | none=>.tuple #[.int .u8 0,.string ⟨#[]⟩,.bool false]
 | some (b,t)=>.tuple #[.int .u8 (if b then 99 else 111),.string t,.bool true]
theorem zJh {p:Nat} {d:Dk} {k:Nat} {s:ByteArray} (hd:d.down=false) (hi:d.now[k]?=some s):Reads Tryz.prog 160 #[.pointer (some ⟨p,0,none⟩),.int .i64 k] [zAC p d] (.tuple #[.string s,.nilIface]):=by
 have h:=zO8 p d (k:Int);obtain ⟨hk,hs⟩:=List.getElem?_eq_some_iff.1 hi;rw [show d.read (k:Int)=(s,0) from by simp [Dk.read,hd,hi];omega] at h;exact h
theorem zOu (p q:Nat) (d:Dk) (frm many first next i:Nat) (s:ByteArray) (hd:d.down=false) (hi:d.now[frm+i]?=some s) (hs:s.size=96) (hn:first+i≤2000000000) (hfi:frm+i≤1000) :
 Reads Tryz.prog 222 #[.pointer (some ⟨q,0,none⟩),.int .i64 i] [zAC p d,Var q [.pointer (some ⟨p,0,none⟩),.int .i64 frm,.int .i64 many,.int .i64 first,.int .i64 next] 295] (zFy (zBU (first+i) s)):=by
 have HR:=(zJh (p:=p) hd hi).frz1;rw [show ((frm+i:Nat):Int)=(frm:Int)+i from by omega] at HR;have HF:=fun w=>zFV (first+i) w hn
 rw [show ((first+i:Nat):Int)=(first:Int)+i from by omega] at HF;intro w L0 hO;simp only [List.map_cons,List.map_nil,List.cons_append,List.nil_append] at hO;have h0b:=UInt8.toNat_lt (s[0]'(by omega));have h5b:=UInt8.toNat_lt (s[5]'(by omega));have hres:zBU (first+i) s=if s.extract 1 5=four (first+i)∧((s[0]'(by omega)).toNat=111∨(s[0]'(by omega)).toNat=99)∧(s[5]'(by omega)).toNat≤90 then some ((s[0]'(by omega)).toNat==99,s.extract 6 (6+(s[5]'(by omega)).toNat)) else none:=by
  unfold zBU;rw [dif_pos (by omega)];have e:∀(x:UInt8) (k:Nat) (hk:k<256),(x=UInt8.ofNat k)=(x.toNat=k):=fun x k hk=>propext ⟨fun h=>by rw [h,UInt8.toNat_ofNat'];omega,fun h=>UInt8.toNat_inj.1 (by rw [h,UInt8.toNat_ofNat'];omega)⟩
  have e1:=e (s[0]'(by omega)) 111 (by omega);have e2:=e (s[0]'(by omega)) 99 (by omega);have e3:((s[0]'(by omega))==(99:UInt8))=((s[0]'(by omega)).toNat==99):=by
   rw [Bool.eq_iff_iff,beq_iff_eq,beq_iff_eq];exact Iff.of_eq e2
  rw [e3]
  congr 1
  rw [show (111:UInt8)=UInt8.ofNat 111 from rfl,show (99:UInt8)=UInt8.ofNat 99 from rfl,e1,e2]
 clear hi;generalize four (first+i)=z at *;generalize zBU (first+i) s=lo at *;(replace hf:=fa_ hO);have HO:=Lib.hid hres;clear hres;by_cases hA:s.extract 1 5=z
 ·have hA2:((s.extract 1 5).toList==z.toList)=true:=by rw [hA];simp
  by_cases hK:(s[0]'(by omega)).toNat=111∨(s[0]'(by omega)).toNat=99
  ·by_cases hN:(s[5]'(by omega)).toNat≤90
   ·rw [HO.out,if_pos ⟨hA,hK,hN⟩];rcases hK with hK | hK
    all_goals
     first | rw [show ((s[0]'(by omega)).toNat==99)=false from by rw [hK];rfl] | rw [show ((s[0]'(by omega)).toNat==99)=true from by rw [hK];rfl]
     unfold zFy;simp only [Bool.false_eq_true,if_false,if_true]
     ((go_enter Tryz.func222,Tryz.ntmps222;go_wp2_with (refine sq_ ?_;clear hO;(try clear hf);intro w9 hO hf);(refine rg_ hO ((0,0)::(0,1)::(0,2)::(1,3)::(0,4)::(0,5)::(0,6)::(1,7)::(0,8)::(0,9)::(3,10)::(0,11)::(0,12)::(0,13)::(0,14)::(0,15)::[]) ?_;clear hO;intro w9 hO;replace hf:=fa_ hO;(repeat (first|(apply zAG _ rfl rfl rfl;focus (intro w8 K8 hK8;(repeat (first | go_skip | go_guarded | go_step));exact hK8))|(apply zAJ _ rfl rfl rfl;focus (intro w8 hx8 K8 hK8;have hO:=hO.ext hx8;(replace hf:=fa_ hO);skip;(repeat (first | go_skip | go_guarded | go_step));exact hK8))|(apply zAL _ rfl;(focus (intro w8 hx8 K8 hK8;have hO:=hO.ext hx8;(replace hf:=fa_ hO);(repeat (first | go_skip | go_guarded | go_step | (go_at_call 160;(with_reducible refine Reads.use hO (HR) tk_ ?_;intro w7 hx7 hO7;clear hO7;dsimp only))));(first | exact xt_ | exact hK8 _ xt_)));(focus (exact rfl));intro w8 hx8;replace hO:=hO.ext hx8;clear hx8;(replace hf:=fa_ hO)))));refine zAA ?_;go_wp2_with (refine sq_ ?_;clear hO;(try clear hf);intro w9 hO hf);(refine rg_ hO ((0,0)::(0,1)::(0,2)::(0,3)::(0,4)::(0,5)::(0,6)::(0,7)::(1,8)::(0,9)::(0,10)::(3,11)::(0,12)::(0,13)::(0,14)::(0,15)::(0,16)::(0,17)::(0,18)::(0,19)::(0,20)::(0,21)::(0,22)::(0,23)::[]) ?_;clear hO;intro w9 hO;replace hf:=fa_ hO;(repeat (first|(apply zAG _ rfl rfl rfl;focus (intro w8 K8 hK8;(repeat (first | go_skip | go_guarded | go_step));exact hK8))|(apply zAJ _ rfl rfl rfl;focus (intro w8 hx8 K8 hK8;have hO:=hO.ext hx8;(replace hf:=fa_ hO);skip;(repeat (first | go_skip | go_guarded | go_step));exact hK8))|(apply zAL _ rfl;(focus (intro w8 hx8 K8 hK8;have hO:=hO.ext hx8;(replace hf:=fa_ hO);(repeat (first | go_skip | go_guarded | go_step | (go_at_call 218;(with_reducible refine Calls.mono (HF _) ?_;rintro e7 w7 ⟨rfl,hx7⟩;dsimp only))));(first | exact xt_ | exact hK8 _ xt_)));(focus (exact rfl));intro w8 hx8;replace hO:=hO.ext hx8;clear hx8;(replace hf:=fa_ hO)))));refine zAA ?_;go_wp2_with (refine sq_ ?_;clear hO;(try clear hf);intro w9 hO hf));(refine rg_ hO ((0,0)::(0,1)::(0,2)::(0,3)::(0,4)::(0,5)::(0,6)::(0,7)::(0,8)::[]) ?_;clear hO;intro w9 hO;replace hf:=fa_ hO;(refine ss_ hO ?_;clear hO;(try clear hf);intro w9 hO hf));refine zAA ?_;go_wp2_with (refine sq_ ?_;clear hO;(try clear hf);intro w9 hO hf))
     all_goals first|(exfalso;omega)|(go_ret3;exact ⟨rfl,hO.toExt⟩)
   ·rw [HO.out,if_neg fun h=>hN h.2.2];unfold zFy;rcases hK with hK | hK
    all_goals
     (go_enter Tryz.func222,Tryz.ntmps222;go_wp2_with (refine sq_ ?_;clear hO;(try clear hf);intro w9 hO hf);(refine rg_ hO ((0,0)::(0,1)::(0,2)::(1,3)::(0,4)::(0,5)::(0,6)::(1,7)::(0,8)::(0,9)::(3,10)::(0,11)::(0,12)::(0,13)::(0,14)::(0,15)::[]) ?_;clear hO;intro w9 hO;replace hf:=fa_ hO;(repeat (first|(apply zAG _ rfl rfl rfl;focus (intro w8 K8 hK8;(repeat (first | go_skip | go_guarded | go_step));exact hK8))|(apply zAJ _ rfl rfl rfl;focus (intro w8 hx8 K8 hK8;have hO:=hO.ext hx8;(replace hf:=fa_ hO);skip;(repeat (first | go_skip | go_guarded | go_step));exact hK8))|(apply zAL _ rfl;(focus (intro w8 hx8 K8 hK8;have hO:=hO.ext hx8;(replace hf:=fa_ hO);(repeat (first | go_skip | go_guarded | go_step | (go_at_call 160;(with_reducible refine Reads.use hO (HR) tk_ ?_;intro w7 hx7 hO7;clear hO7;dsimp only))));(first | exact xt_ | exact hK8 _ xt_)));(focus (exact rfl));intro w8 hx8;replace hO:=hO.ext hx8;clear hx8;(replace hf:=fa_ hO)))));refine zAA ?_;go_wp2_with (refine sq_ ?_;clear hO;(try clear hf);intro w9 hO hf);(refine rg_ hO ((0,0)::(0,1)::(0,2)::(0,3)::(0,4)::(0,5)::(0,6)::(0,7)::(1,8)::(0,9)::(0,10)::(3,11)::(0,12)::(0,13)::(0,14)::(0,15)::(0,16)::(0,17)::(0,18)::(0,19)::(0,20)::(0,21)::(0,22)::(0,23)::[]) ?_;clear hO;intro w9 hO;replace hf:=fa_ hO;(repeat (first|(apply zAG _ rfl rfl rfl;focus (intro w8 K8 hK8;(repeat (first | go_skip | go_guarded | go_step));exact hK8))|(apply zAJ _ rfl rfl rfl;focus (intro w8 hx8 K8 hK8;have hO:=hO.ext hx8;(replace hf:=fa_ hO);skip;(repeat (first | go_skip | go_guarded | go_step));exact hK8))|(apply zAL _ rfl;(focus (intro w8 hx8 K8 hK8;have hO:=hO.ext hx8;(replace hf:=fa_ hO);(repeat (first | go_skip | go_guarded | go_step | (go_at_call 218;(with_reducible refine Calls.mono (HF _) ?_;rintro e7 w7 ⟨rfl,hx7⟩;dsimp only))));(first | exact xt_ | exact hK8 _ xt_)));(focus (exact rfl));intro w8 hx8;replace hO:=hO.ext hx8;clear hx8;(replace hf:=fa_ hO)))));refine zAA ?_;go_wp2_with (refine sq_ ?_;clear hO;(try clear hf);intro w9 hO hf));all_goals first|(exfalso;omega)|(go_ret3;exact ⟨rfl,hO.toExt⟩)
  ·have hK1:¬(s[0]'(by omega)).toNat=111:=fun h=>hK (.inl h)
   have hK2:¬(s[0]'(by omega)).toNat=99:=fun h=>hK (.inr h)
   rw [HO.out,if_neg fun h=>hK h.2.1];unfold zFy;clear hK;(go_enter Tryz.func222,Tryz.ntmps222;go_wp2_with (refine sq_ ?_;clear hO;(try clear hf);intro w9 hO hf);(refine rg_ hO ((0,0)::(0,1)::(0,2)::(1,3)::(0,4)::(0,5)::(0,6)::(1,7)::(0,8)::(0,9)::(3,10)::(0,11)::(0,12)::(0,13)::(0,14)::(0,15)::[]) ?_;clear hO;intro w9 hO;replace hf:=fa_ hO;(repeat (first|(apply zAG _ rfl rfl rfl;focus (intro w8 K8 hK8;(repeat (first | go_skip | go_guarded | go_step));exact hK8))|(apply zAJ _ rfl rfl rfl;focus (intro w8 hx8 K8 hK8;have hO:=hO.ext hx8;(replace hf:=fa_ hO);skip;(repeat (first | go_skip | go_guarded | go_step));exact hK8))|(apply zAL _ rfl;(focus (intro w8 hx8 K8 hK8;have hO:=hO.ext hx8;(replace hf:=fa_ hO);(repeat (first | go_skip | go_guarded | go_step | (go_at_call 160;(with_reducible refine Reads.use hO (HR) tk_ ?_;intro w7 hx7 hO7;clear hO7;dsimp only))));(first | exact xt_ | exact hK8 _ xt_)));(focus (exact rfl));intro w8 hx8;replace hO:=hO.ext hx8;clear hx8;(replace hf:=fa_ hO)))));refine zAA ?_;go_wp2_with (refine sq_ ?_;clear hO;(try clear hf);intro w9 hO hf);(refine rg_ hO ((0,0)::(0,1)::(0,2)::(0,3)::(0,4)::(0,5)::(0,6)::(0,7)::(1,8)::(0,9)::(0,10)::(3,11)::(0,12)::(0,13)::(0,14)::(0,15)::(0,16)::(0,17)::(0,18)::(0,19)::(0,20)::(0,21)::(0,22)::(0,23)::[]) ?_;clear hO;intro w9 hO;replace hf:=fa_ hO;(repeat (first|(apply zAG _ rfl rfl rfl;focus (intro w8 K8 hK8;(repeat (first | go_skip | go_guarded | go_step));exact hK8))|(apply zAJ _ rfl rfl rfl;focus (intro w8 hx8 K8 hK8;have hO:=hO.ext hx8;(replace hf:=fa_ hO);skip;(repeat (first | go_skip | go_guarded | go_step));exact hK8))|(apply zAL _ rfl;(focus (intro w8 hx8 K8 hK8;have hO:=hO.ext hx8;(replace hf:=fa_ hO);(repeat (first | go_skip | go_guarded | go_step | (go_at_call 218;(with_reducible refine Calls.mono (HF _) ?_;rintro e7 w7 ⟨rfl,hx7⟩;dsimp only))));(first | exact xt_ | exact hK8 _ xt_)));(focus (exact rfl));intro w8 hx8;replace hO:=hO.ext hx8;clear hx8;(replace hf:=fa_ hO)))));refine zAA ?_;go_wp2_with (refine sq_ ?_;clear hO;(try clear hf);intro w9 hO hf));all_goals first | (exfalso; omega) | (go_ret3; exact ⟨rfl, hO.toExt⟩) | (exfalso; have h8 : (((s[0]'(by omega)).toNat : Int) != 111) = false ∨ (((s[0]'(by omega)).toNat : Int) != 99) = false := (by assumption); rcases h8 with h8 | h8 <;> (rw [bne_eq_false_iff_eq] at h8; omega))
 ·have hA2:((s.extract 1 5).toList==z.toList)=false:=by simpa using fun e=>hA (zBH e)
  rw [HO.out,if_neg fun h=>hA h.1];unfold zFy;(go_enter Tryz.func222,Tryz.ntmps222;go_wp2_with (refine sq_ ?_;clear hO;(try clear hf);intro w9 hO hf);(refine rg_ hO ((0,0)::(0,1)::(0,2)::(1,3)::(0,4)::(0,5)::(0,6)::(1,7)::(0,8)::(0,9)::(3,10)::(0,11)::(0,12)::(0,13)::(0,14)::(0,15)::[]) ?_;clear hO;intro w9 hO;replace hf:=fa_ hO;(repeat (first|(apply zAG _ rfl rfl rfl;focus (intro w8 K8 hK8;(repeat (first | go_skip | go_guarded | go_step));exact hK8))|(apply zAJ _ rfl rfl rfl;focus (intro w8 hx8 K8 hK8;have hO:=hO.ext hx8;(replace hf:=fa_ hO);skip;(repeat (first | go_skip | go_guarded | go_step));exact hK8))|(apply zAL _ rfl;(focus (intro w8 hx8 K8 hK8;have hO:=hO.ext hx8;(replace hf:=fa_ hO);(repeat (first | go_skip | go_guarded | go_step | (go_at_call 160;(with_reducible refine Reads.use hO (HR) tk_ ?_;intro w7 hx7 hO7;clear hO7;dsimp only))));(first | exact xt_ | exact hK8 _ xt_)));(focus (exact rfl));intro w8 hx8;replace hO:=hO.ext hx8;clear hx8;(replace hf:=fa_ hO)))));refine zAA ?_;go_wp2_with (refine sq_ ?_;clear hO;(try clear hf);intro w9 hO hf);(refine rg_ hO ((0,0)::(0,1)::(0,2)::(0,3)::(0,4)::(0,5)::(0,6)::(0,7)::(1,8)::(0,9)::(0,10)::(3,11)::(0,12)::(0,13)::(0,14)::(0,15)::(0,16)::(0,17)::(0,18)::(0,19)::(0,20)::(0,21)::(0,22)::(0,23)::[]) ?_;clear hO;intro w9 hO;replace hf:=fa_ hO;(repeat (first|(apply zAG _ rfl rfl rfl;focus (intro w8 K8 hK8;(repeat (first | go_skip | go_guarded | go_step));exact hK8))|(apply zAJ _ rfl rfl rfl;focus (intro w8 hx8 K8 hK8;have hO:=hO.ext hx8;(replace hf:=fa_ hO);skip;(repeat (first | go_skip | go_guarded | go_step));exact hK8))|(apply zAL _ rfl;(focus (intro w8 hx8 K8 hK8;have hO:=hO.ext hx8;(replace hf:=fa_ hO);(repeat (first | go_skip | go_guarded | go_step | (go_at_call 218;(with_reducible refine Calls.mono (HF _) ?_;rintro e7 w7 ⟨rfl,hx7⟩;dsimp only))));(first | exact xt_ | exact hK8 _ xt_)));(focus (exact rfl));intro w8 hx8;replace hO:=hO.ext hx8;clear hx8;(replace hf:=fa_ hO)))));refine zAA ?_;go_wp2_with (refine sq_ ?_;clear hO;(try clear hf);intro w9 hO hf));all_goals first|(exfalso;omega)|(go_ret3;exact ⟨rfl,hO.toExt⟩)
def zCh:Value:=.agg #[.string ⟨#[]⟩,.string ⟨#[]⟩,.bool false]
theorem zPM {s:ByteArray} {c:Ch} (w:World) (h:LibOk w) (hs:s.size≤300) (hc:zCV s=some c):Calls Tryz.prog 223 #[.string s] w fun e w'=>e=.returned (.tuple #[c.v,.nilIface])∧Ext w w':=
 zRH s c w h hs (zHe hc).1 (zHe hc).2
theorem zOt {s:ByteArray} (w:World) (h:LibOk w) (hs:s.size≤300) (hc:zCV s=none):Calls Tryz.prog 223 #[.string s] w fun e w'=>e=.returned (.tuple #[zCh,.iface 124 (.int .i64 4)])∧Ext w w':=by
 by_cases hr:∃c,Reads3 s c
 ·obtain ⟨c,hr⟩:=hr;exact zQ0 s c w h hs hr fun h=>zNV hc ⟨c,hr,h⟩
 ·exact zPl s w h hs hr
theorem Tryz.infoChs:(Tryz.prog.info? 36).map (fun i=>(i.zero,i.size,i.bytes))=some (some (.slice none 0 0),1,24):=by kernel_rfl
theorem Own.rowImm {S:Nat→Prop} {W w:World} {l l':List Rs} {e:TypeId} {size:Nat} {a:Option Addr} {n c:Nat} {xs:List Value} (h:Own S W w l) (hp:Pick l (Row2 e size a n c xs) l'):Own S W w (.imm (fun w=>ValsAt w a xs)::l'):=
 Own.toImm (r:=Row2 e size a n c xs) (φ:=fun w=>ValsAt w a xs) (fun w h=>h.1) (h.pick hp)
theorem Own.dsNone {S:Nat→Prop} {W w:World} {l:List Rs} (h:Own S W w l):Own S W w (.imm (fun w=>DsAt w [])::l):=Own.toImm (r:=Row2 142 3 none 0 0 []) (φ:=fun w=>DsAt w []) (fun _ _ d hd=>by cases hd) (h.nil 142 3)
theorem Own.dsAdd {S:Nat→Prop} {W w:World} {l:List Rs} {D:List DV} {a:Option Addr} {c:Nat} {C:List Ch} (h:Own S W w (.imm (fun w=>ValsAt w a (chs C))::.imm (fun w=>DsAt w D)::l)):Own S W w (.imm (fun w=>DsAt w (D++[(a,c,C)]))::l):=
 h.and.imp fun w ⟨h1,h2⟩ x hx=>by
  rcases List.mem_append.1 hx with hx | hx
  ·exact h2 x hx
  ·rw [List.mem_singleton.1 hx];exact h1
theorem zKJ (p:Nat) (d:Dk) (frm many first:Nat) (sec:List ByteArray) (Wd:List (List Ch)) (u:Nat) (hd:d.down=false) (hm:1≤many) (hb:frm+many≤d.now.length) (hN:d.now.length≤1000) (h96:∀s∈d.now,s.size=96) (hf1:1≤first) (hf2:first≤1000000)
 (hsec:(d.now.drop frm).take many=sec) (hscan:scan first 0 sec [] [] 0=(Wd,u)) :
 Does Tryz.prog 159 #[.pointer (some ⟨p,0,none⟩),.int .i64 frm,.int .i64 many,.int .i64 first] [zAC p d,.imm LibOk]
  (fun x:Nat×(Option Addr×Nat)×List DV=>(.tuple #[.pointer (some ⟨x.1,0,none⟩),.slice x.2.1.1 x.2.2.length x.2.1.2,.nilIface],
   [Var x.1 [.pointer (some ⟨p,0,none⟩),.int .i64 frm,.int .i64 many,.int .i64 first,.int .i64 u] 295,Row2 36 1 x.2.1.1 x.2.2.length x.2.1.2 (x.2.2.map dv),.imm (fun w=>DsAt w x.2.2),.pure (dss x.2.2=Wd),zAC p d,.imm LibOk])):=by
 obtain ⟨iC,hiC,hzC,hsC,hbC⟩:=info_parts Tryz.infoCh;obtain ⟨iD,hiD,hzD,hsD,hbD⟩:=info_parts Tryz.infoChs;have hl:sec.length=many:=by rw [←hsec,List.length_take,List.length_drop];omega
 have HL:=fun (q nx i:Nat) (hi:i<many)=>zOu p q d frm many first nx i (sec[i]'(by omega)) hd (by
  subst hsec;rw [List.getElem_take,List.getElem_drop];exact List.getElem?_eq_getElem (by omega)) (by
  subst hsec;rw [List.getElem_take,List.getElem_drop];exact h96 _ (List.getElem_mem ..)) (by omega) (by omega)
 have HS:=Lib.hid hscan;have HDN:=zIh p d;have HSC:=zBE p d;rw [hd] at HDN;clear hscan hsec h96 hd;generalize hN2:d.now.length=N at *;intro S W w L0 hO;simp only [List.cons_append,List.nil_append] at hO;(replace hf:=fa_ hO);go_enter Tryz.func159,Tryz.ntmps159;go_wp2_with (first|(go_at_call 143;(with_reducible apply Reads.use hO (HSC);exact tk_;refine ru_ ?_;clear hO hf;intro w9 hO hf))|(go_at_call 62;(with_reducible apply Reads.use hO (HDN);exact tk_;refine ru_ ?_;clear hO hf;intro w9 hO hf))|(refine sq_ ?_;clear hO hf;intro w9 hO hf));all_goals try (exfalso;omega;done);rename World=>w0
 (rename many≤N=>hx1;clear hx1)
 (rename (((_∧_)∧¬_)∧_)∧_=>hx1;clear hx1)
 obtain ⟨q,hq9⟩:=(hO.pick (r:=Var _ _ 295) pk_).named;rw [←hq9] at hO ⊢;clear hq9;have hO9:=((hO.dsNone).nil 36 1).nil 142 3;clear hO;go_loopw [12,13,55] (fun v12 v13 v55 wr=>∃(i nx on oc cn cc:Nat) (oa ca:Option Addr) (D:List DV) (C:List Ch),v12=.slice oa on oc∧v13=.slice ca cn cc∧v55=.int .i64 i∧i≤many∧D.length=on∧C.length=cn∧on≤i∧cn≤i∧
  Hid (scan first i (sec.drop i) (dss D) C nx=(Wd,u))∧Own S W wr ([Var q [.pointer (some ⟨p,0,none⟩),.int .i64 frm,.int .i64 many,.int .i64 first,.int .i64 nx] 295,Row2 36 1 oa on oc (D.map dv),.imm (fun w=>DsAt w D),Row2 142 3 ca cn cc (chs C),zAC p d,.imm LibOk]++L0)) (fun _ _ i _=>many-(intOf i).toNat)
 case atStart=>exact ⟨0,0,0,0,0,0,none,none,[],[],rfl,rfl,rfl,by omega,rfl,rfl,by omega,by omega,Lib.hid HS.out,(by rw [show ((0:Nat):Int)=0 from rfl,show ([]:List DV).map dv=[] from rfl,show chs []=[] from rfl];(try simp only [CA]);exact hO9.cut sb_)⟩
 case round=>
  clear hO9;obtain ⟨i,nx,on,oc,cn,cc,oa,ca,D,C,rfl,rfl,rfl,hi,hD,hC,hon,hcn,HI,hO⟩:=hrel;rename World=>w1
  simp only [List.cons_append,List.nil_append] at hO;(replace hf:=fa_ hO);by_cases hlt:i<many
  ·have hi2:i<sec.length:=by omega
   have HLi:=HL q nx i hlt;have HI2:=HI.out;rw [List.drop_eq_getElem_cons hi2] at HI2;clear HI;generalize sec[i]=s at *;cases hk:zBU (first+i) s with
   | none=>
    rw [zEJ hk] at HI2;obtain ⟨rfl,rfl⟩:=Prod.mk.inj HI2;rw [hk] at HLi;unfold zFy at HLi;dsimp only at HLi;go_wp2_with (first|(go_at_call 222;(with_reducible apply Reads.use hO (HLi);exact tk_;refine ru_ ?_;clear hO;(try clear hf);intro w9 hO hf))|(refine sq_ ?_;clear hO;(try clear hf);intro w9 hO hf));(go_ret3;subst hD;refine ⟨(q,(oa,oc),D),rfl,?_⟩;dsimp only;replace hO:=hO.toPure (p:=dss D=dss D) rfl;exact hO.give tk_ kp_)
   | some bt=>
    obtain ⟨b,t⟩:=bt;have hts:=zPI hk;rw [hk] at HLi;unfold zFy at HLi;dsimp only at HLi;cases b with
    | true=>
     simp only [if_true] at HLi;have HF:=fun w=>zFV C.length w (by omega)
     rw [hC] at HF;by_cases ht:t=four C.length
     ·rw [zDl hk ht] at HI2;have HI3:=Lib.hid HI2;clear HI2;rw [hC] at ht;have htb:(t.toList==(four cn).toList)=true:=by rw [ht];simp
      generalize four cn=z at *;go_wp2_with (first|(go_at_call 222;(with_reducible apply Reads.use hO (HLi);exact tk_;refine ru_ ?_;clear hO;(try clear hf);intro w9 hO hf))|(go_at_call 218;(with_reducible apply Calls.mono (HF _);refine cu_ ?_;clear hO;(try clear hf);intro w8 hO hf))|(at_builtin;(refine zAH hO pk_ pk_ rfl (.tmp 81) (.tmp 83) 246 rfl iD _ 24 Tryz.underlying246 hiD hzD hsD hbD rfl (by omega) rfl _ _ rfl (by rfl) (by repeat (first | exact zAp | refine zAf rfl ?_)) (by unfold maxLen;omega) (by omega) ?_;clear hO;intro ka9 kc9 w9 hO;(replace hf:=fa_ hO)))|(refine sq_ ?_;clear hO;(try clear hf);intro w9 hO hf));have HDV:=Lib.hid (show (D++[(ca,cc,C)]).map dv=D.map dv++[.slice ca cn cc] by rw [List.map_append,←hC];rfl);have h1:=(hO.rowImm (a:=ca) (n:=cn) (c:=cc) (xs:=chs C) pk_).take (rs:=[.imm (fun w=>ValsAt w ca (chs C)),.imm (fun w=>DsAt w D)]) tk_;simp only [List.cons_append,List.nil_append,List.append_eq] at h1;have h2:=(h1.dsAdd (c:=cc)).nil 142 3;refine ⟨⟨i+1,i+1,on+1,kc9,0,0,ka9,none,D++[(ca,cc,C)],[],rfl,rfl,by go_num,by omega,by simp [hD],rfl,by omega,by omega,Lib.hid (by rw [←HI3.out];simp [dss]),?_⟩,by simp [intOf];omega⟩;rw [HDV.out,show ((i+1:Nat):Int)=(i:Int)+1 from by omega,show chs []=[] from rfl];(try simp only [CA]);exact h2.cut sb_
     ·rw [zMV hk ht] at HI2;obtain ⟨rfl,rfl⟩:=Prod.mk.inj HI2;rw [hC] at ht;have htb:(t.toList==(four cn).toList)=false:=by simpa using fun e=>ht (zBH e)
      generalize four cn=z at *;go_wp2_with (first|(go_at_call 222;(with_reducible apply Reads.use hO (HLi);exact tk_;refine ru_ ?_;clear hO;(try clear hf);intro w9 hO hf))|(go_at_call 218;(with_reducible apply Calls.mono (HF _);refine cu_ ?_;clear hO;(try clear hf);intro w8 hO hf))|(refine sq_ ?_;clear hO;(try clear hf);intro w9 hO hf));(go_ret3;subst hD;refine ⟨(q,(oa,oc),D),rfl,?_⟩;dsimp only;replace hO:=hO.toPure (p:=dss D=dss D) rfl;exact hO.give tk_ kp_)
    | false=>
     simp only [Bool.false_eq_true,if_false] at HLi;cases hp:zCV t with
     | none=>
      rw [zHR hk hp] at HI2;obtain ⟨rfl,rfl⟩:=Prod.mk.inj HI2;have HP:=fun w h=>zOt (s:=t) w h (by omega) hp
      unfold zCh at HP;go_wp2_with (first|(go_at_call 222;(with_reducible apply Reads.use hO (HLi);exact tk_;refine ru_ ?_;clear hO;(try clear hf);intro w9 hO hf))|(go_at_call 223;(with_reducible apply Calls.mono (HP _ (Own.immOf (φ:=LibOk) hO pk_));refine cu_ ?_;clear hO;(try clear hf);intro w8 hO hf))|(refine sq_ ?_;clear hO;(try clear hf);intro w9 hO hf));(go_ret3;subst hD;refine ⟨(q,(oa,oc),D),rfl,?_⟩;dsimp only;replace hO:=hO.toPure (p:=dss D=dss D) rfl;exact hO.give tk_ kp_)
     | some c=>
      rw [zEI hk hp] at HI2;have HI3:=Lib.hid HI2;clear HI2;have HP:=fun w h=>zPM (s:=t) w h (by omega) hp
      unfold Ch.v at HP;go_wp2_with (first|(go_at_call 222;(with_reducible apply Reads.use hO (HLi);exact tk_;refine ru_ ?_;clear hO;(try clear hf);intro w9 hO hf))|(go_at_call 223;(with_reducible apply Calls.mono (HP _ (Own.immOf (φ:=LibOk) hO pk_));refine cu_ ?_;clear hO;(try clear hf);intro w8 hO hf))|(at_builtin;(refine zAH hO pk_ pk_ rfl (.tmp 96) (.tmp 98) 36 rfl iC _ 40 Tryz.underlying36 hiC hzC hsC hbC rfl (by omega) rfl _ _ rfl (by rfl) (by repeat (first | exact zAp | refine zAf rfl ?_)) (by unfold maxLen;omega) (by omega) ?_;clear hO;intro ka9 kc9 w9 hO;(replace hf:=fa_ hO)))|(refine sq_ ?_;clear hO;(try clear hf);intro w9 hO hf));refine ⟨⟨i+1,nx,on,oc,cn+1,kc9,oa,ka9,D,C++[c],rfl,rfl,by go_num,by omega,hD,by simp [hC],by omega,by omega,Lib.hid HI3.out,?_⟩,by simp [intOf];omega⟩;rw [zIW,zRF];unfold Ch.cells;(try simp only [CA]);exact hO.cut sb_
  ·have HI2:=HI.out;rw [List.drop_of_length_le (by omega),scan] at HI2;clear HI;obtain ⟨rfl,rfl⟩:=Prod.mk.inj HI2;go_wp2_with (refine sq_ ?_;clear hO;(try clear hf);intro w9 hO hf);(go_ret3;subst hD;refine ⟨(q,(oa,oc),D),rfl,?_⟩;dsimp only;replace hO:=hO.toPure (p:=dss D=dss D) rfl;exact hO.give tk_ kp_)
theorem Own.dl {S:Nat→Prop} {W w:World} {l l':List Rs} {a:Option Addr} {n c:Nat} {D:List DV} (h:Own S W w l) (ht:Takes l [Row2 36 1 a n c (D.map dv),.imm fun w=>DsAt w D] l'):Own S W w (.imm (fun w=>DLAt w a D)::l'):=by
 have h1:=h.take ht;simp only [List.cons_append,List.nil_append] at h1;exact (Own.rowImm h1 (.here _ _)).and
theorem zCb (p q frm many first u:Nat) (hm:many≤100000) (hu:u≤100000):Reads Tryz.prog 151 #[.pointer (some ⟨q,0,none⟩)] [Var q [.pointer (some ⟨p,0,none⟩),.int .i64 frm,.int .i64 many,.int .i64 first,.int .i64 u] 295] (.int .i64 ((many:Int)-u)):=by
 intro w L0 hO;simp only [List.map_cons,List.map_nil,List.cons_append,List.nil_append] at hO;(replace hf:=fa_ hO);go_enter Tryz.func151,Tryz.ntmps151;go_wp2_with (refine sq_ ?_;clear hO hf;intro w9 hO hf);(refine rg_ hO ((0,0)::(0,1)::(0,2)::(1,3)::(0,4)::(0,5)::(0,6)::(1,7)::(0,8)::(0,9)::[]) ?_;clear hO;intro w9 hO;replace hf:=fa_ hO;(refine ss_ hO ?_;clear hO hf;intro w9 hO hf));refine zAA ?_;go_wp2_with (refine sq_ ?_;clear hO hf;intro w9 hO hf);go_ret;exact ⟨rfl,hO.toExt⟩
theorem zOv (p q frm many first u:Nat) (hm:many≤100000) (hu:first≤10000000):Reads Tryz.prog 156 #[.pointer (some ⟨q,0,none⟩)] [Var q [.pointer (some ⟨p,0,none⟩),.int .i64 frm,.int .i64 many,.int .i64 first,.int .i64 u] 295] (.int .i64 ((first:Int)+many)):=by
 intro w L0 hO;simp only [List.map_cons,List.map_nil,List.cons_append,List.nil_append] at hO;(replace hf:=fa_ hO);go_enter Tryz.func156,Tryz.ntmps156;go_wp2_with (refine sq_ ?_;clear hO hf;intro w9 hO hf);(refine rg_ hO ((0,0)::(0,1)::(0,2)::(1,3)::(0,4)::(0,5)::(0,6)::(1,7)::(0,8)::(0,9)::[]) ?_;clear hO;intro w9 hO;replace hf:=fa_ hO;(refine ss_ hO ?_;clear hO hf;intro w9 hO hf));refine zAA ?_;go_wp2_with (refine sq_ ?_;clear hO hf;intro w9 hO hf);go_ret;exact ⟨rfl,hO.toExt⟩
theorem zHC {d d1:Dk} {a b:List (Nat×ByteArray)} (h:d.lays a=(0,d1)):d.lays (a++b)=d1.lays b:=by rw [zFJ,h,if_pos rfl]
theorem zQl (p n:Nat) (C:List Ch) {i:Nat} (hi:i<C.length):ows p n C=ows p n (C.take i)++(p+i,secB 111 (n+i) (zAZ C[i]))::ows (p+i+1) (n+i+1) (C.drop (i+1)):=by
 conv=>lhs;rw [←List.take_append_drop i C,zFk,List.length_take,Nat.min_eq_left (by omega),List.drop_eq_getElem_cons hi,ows]
theorem zRg (p n:Nat) (C:List Ch) {i:Nat} (hi:i<C.length):ows p n (C.take (i+1))=ows p n (C.take i)++[(p+i,secB 111 (n+i) (zAZ C[i]))]:=by
 rw [List.take_succ_eq_append_getElem hi,zFk,List.length_take,Nat.min_eq_left (by omega)];rfl
theorem zDG {d:Dk} {n:Nat} {s:ByteArray} (hn:n<d.now.length) (hs:s.size≤96):(d.writeR n s).1=0∨(d.writeR n s).1=10:=by
 unfold Dk.writeR;rw [if_neg (by omega)];split
 ·exact .inl rfl
 ·exact .inr rfl
theorem zNl (d:Dk) (t:Nat×ByteArray) (l:List (Nat×ByteArray)) (h:(d.writeR t.1 t.2).1=0):d.lays (t::l)=(d.writeR t.1 t.2).2.lays l:=by rw [Dk.lays,if_pos h]
theorem zNs (d:Dk) (t:Nat×ByteArray) (l:List (Nat×ByteArray)) (h:(d.writeR t.1 t.2).1=10):d.lays (t::l)=d.writeR t.1 t.2:=by rw [Dk.lays,if_neg (by omega)]
theorem zLY (d:Dk) (t:Nat×ByteArray):d.lays [t]=d.writeR t.1 t.2:=by
 rw [Dk.lays];split
 ·rename_i h;generalize d.writeR t.1 t.2=r at *;obtain ⟨a,b⟩:=r;dsimp only at h;subst h;rfl
 ·rfl
theorem zRN (p q:Nat) (d:Dk) (k j:Nat) (frm many first u:Nat) (a:Option Addr) (n cap:Nat) (C:List Ch) (hD:DkOk k j d) (hj:j≤900000) (hC:C.length=n) (hn:n≤12) (hok:∀c∈C,ChOk c)
 (hu:u+n+1≤many) (hlen:frm+many≤k) (hk:k≤1000) (hfi:first≤10000000) {φ:World→Prop} (hφ:∀w,φ w→LibOk w∧ValsAt w a (chs C)) :
 Does Tryz.prog 215 #[.pointer (some ⟨q,0,none⟩),.slice a n cap] [Var q [.pointer (some ⟨p,0,none⟩),.int .i64 frm,.int .i64 many,.int .i64 first,.int .i64 u] 295,zAC p d,.imm φ]
  (fun _:Unit=>(errV (d.lays (lws frm many first u C)).1,[Var q [.pointer (some ⟨p,0,none⟩),.int .i64 frm,.int .i64 many,.int .i64 first,.int .i64 u] 295,zAC p (d.lays (lws frm many first u C)).2,.imm φ])):=by
 intro S W w L0 hO;simp only [List.cons_append,List.nil_append] at hO;have HOK:=Lib.hid hok;have HRES:=Lib.hid (rfl:d.lays (lws frm many first u C)=d.lays (lws frm many first u C));generalize hres:d.lays (lws frm many first u C)=res at HRES ⊢;clear HRES;have HRES:=Lib.hid hres;clear hres hok;(replace hf:=fa_ hO);go_enter Tryz.func215,Tryz.ntmps215;go_wp2_with (refine sq_ ?_;clear hO hf;intro w9 hO hf);(refine rg_ hO ((0,0)::(0,1)::(0,2)::(1,3)::(0,4)::(0,5)::(0,6)::(1,7)::(0,8)::(0,9)::[]) ?_;clear hO;intro w9 hO;replace hf:=fa_ hO;(refine ss_ hO ?_;clear hO hf;intro w9 hO hf));refine zAA ?_;go_wp2_with (refine sq_ ?_;clear hO hf;intro w9 hO hf);have hO9:=hO;clear hO hf;go_loopw [22] (fun v wr=>∃(i:Nat) (e:Dk),v=.int .i64 i∧i≤n∧Hid (d.lays (ows (frm+u) (first+u) (C.take i))=(0,e))∧DkOk k (j+i) e∧Own S W wr ([Var q [.pointer (some ⟨p,0,none⟩),.int .i64 frm,.int .i64 many,.int .i64 first,.int .i64 u] 295,zAC p e,.imm φ]++L0)) (fun v _=>n-(intOf v).toNat)
 case atStart=>exact ⟨0,d,rfl,by omega,Lib.hid rfl,hD,hO9⟩
 case round=>
  clear hO9;obtain ⟨i,e,rfl,hi,HE,hDe,hO⟩:=hrel;rename World=>w1
  simp only [List.cons_append,List.nil_append] at hO;(replace hf:=fa_ hO);by_cases hlt:i<n
  ·have hi2:i<C.length:=by omega
   obtain ⟨b,off,rfl⟩:=ChAt.some (a:=a) ((hφ _ (Own.immOf (φ:=φ) hO pk_)).2) (by omega);obtain ⟨c0,c1,c2⟩:=ChAt.at (w:=w1) (l:=C) (b:=b) (off:=off) ((hφ _ (Own.immOf (φ:=φ) hO pk_)).2) hi2;have hcok:=HOK.out _ (List.getElem_mem hi2);have hsp:=Lib.hid (zQl (frm+u) (first+u) C hi2);have hsu:=Lib.hid (zRg (frm+u) (first+u) C hi2);generalize C[i]=c at *;have hks:=zBQ hcok.1;have hvs:=hcok.2.2;have hbs:=zES hcok;have HB:=fun w h=>zRK c w h (by omega) (by omega) hcok
   rw [show errV 0=.nilIface from rfl] at HB;unfold Ch.v at HB;have HT:=fun w=>zMP 111 (first+u+i) (zAZ c) w (.inl rfl) (by omega) hbs
   have hts:(secB 111 (first+u+i) (zAZ c)).size≤96:=by rw [zDZ];omega
   rw [show UInt8.ofNat (111:Int).toNat=111 from rfl,show ((first+u+i:Nat):Int)=(first:Int)+u+i from by omega] at HT;have HW:=zCH p e ((frm+u+i:Nat):Int) (secB 111 (first+u+i) (zAZ c)) hDe.f1 hDe.f2 (by have:=hDe.wait;omega);have hcd:=zDG (d:=e) (n:=frm+u+i) (by rw [hDe.now];omega) hts;have hD2:=hDe.write ((frm+u+i:Nat):Int) (secB 111 (first+u+i) (zAZ c));have hl1:=fun (h:(e.writeR ((frm+u+i:Nat):Int) (secB 111 (first+u+i) (zAZ c))).1=0) (l:List (Nat×ByteArray))=>zNl e (frm+u+i,secB 111 (first+u+i) (zAZ c)) l h
   have hl0:=fun (h:(e.writeR ((frm+u+i:Nat):Int) (secB 111 (first+u+i) (zAZ c))).1=10) (l:List (Nat×ByteArray))=>zNs e (frm+u+i,secB 111 (first+u+i) (zAZ c)) l h
   generalize secB 111 (first+u+i) (zAZ c)=z at *;generalize zAZ c=y at *;dsimp only at hl1 hl0;rw [show ((frm+u+i:Nat):Int)=(frm:Int)+u+i from by omega] at HW hcd hD2 hl1 hl0;generalize e.writeR ((frm:Int)+u+i) z=r at *;obtain ⟨rc,e2⟩:=r;dsimp only at HW hcd hD2 hl1 hl0;clear hcok;rcases hcd with rfl | rfl
   ·rw [show errV 0=.nilIface from rfl] at HW;have HE2:=Lib.hid (show d.lays (ows (frm+u) (first+u) (C.take (i+1)))=(0,e2) by
     rw [hsu.out,zHC HE.out,hl1 rfl];rfl)
    clear hl1 hl0 HE;go_wp2_with (first|(go_at_call 250;(with_reducible apply Calls.mono (HB _ (hφ _ (Own.immOf (φ:=φ) hO pk_)).1);refine cu_ ?_;clear hO;(try clear hf);intro w8 hO hf))|(refine sq_ ?_;clear hO;(try clear hf);intro w9 hO hf));(refine rg_ hO ((0,0)::(0,1)::(0,2)::(1,3)::(0,4)::(0,5)::(0,6)::(0,7)::(0,8)::(0,9)::(1,10)::(0,11)::(0,12)::(0,13)::(1,14)::(0,15)::(0,16)::(0,17)::(0,18)::(3,19)::(5,20)::(0,21)::[]) ?_;clear hO;intro w9 hO;replace hf:=fa_ hO;(repeat (first|(apply zAG _ rfl rfl rfl;focus (intro w8 K8 hK8;(repeat (first | go_skip | go_guarded | go_step));exact hK8))|(apply zAJ _ rfl rfl rfl;focus (intro w8 hx8 K8 hK8;have hO:=hO.ext hx8;(replace hf:=fa_ hO);skip;(repeat (first | go_skip | go_guarded | go_step));exact hK8))|(apply zAL _ rfl;(focus (intro w8 hx8 K8 hK8;have hO:=hO.ext hx8;(replace hf:=fa_ hO);(repeat (first | go_skip | go_guarded | go_step | (go_at_call 217;(with_reducible refine Calls.mono (HT _) ?_;rintro e7 w7 ⟨rfl,hx7⟩;dsimp only))));(first | exact xt_ | exact hK8 _ xt_)));(focus (exact rfl));intro w8 hx8;replace hO:=hO.ext hx8;clear hx8;(replace hf:=fa_ hO)))));(refine zAE rfl ?_;intro K8 hK8;(repeat (first | go_skip | go_guarded | go_step));(go_at_call 144;(with_reducible refine Does.use hO (HW) tk_ (du_ ?_);clear hO hf;intro x9 w9 hO hf));(repeat go_step);refine hK8 _ _ trivial ?_;clear hK8 K8);(refine ss_ hO ?_;clear hO hf;intro w9 hO hf);refine zAA ?_;go_wp2_with (refine sq_ ?_;clear hO hf;intro w9 hO hf);refine ⟨⟨i+1,e2,by go_num,by omega,HE2,hD2,?_⟩,by simp [intOf];omega⟩;(try simp only [CA]);exact hO.cut sb_
   ·have HR:=Lib.hid (show res=(10,e2) by
     rw [←HRES.out,lws,hsp.out,List.append_assoc,zHC HE.out,List.cons_append,hl0 rfl])
    clear hl1 hl0 HE HRES;obtain rfl:=HR.out;clear HR;(try dsimp only at HW);(try dsimp only);rw [show errV 10=.iface 124 (.int .i64 10) from rfl] at HW;go_wp2_with (first|(go_at_call 250;(with_reducible apply Calls.mono (HB _ (hφ _ (Own.immOf (φ:=φ) hO pk_)).1);refine cu_ ?_;clear hO;(try clear hf);intro w8 hO hf))|(refine sq_ ?_;clear hO;(try clear hf);intro w9 hO hf));(refine rg_ hO ((0,0)::(0,1)::(0,2)::(1,3)::(0,4)::(0,5)::(0,6)::(0,7)::(0,8)::(0,9)::(1,10)::(0,11)::(0,12)::(0,13)::(1,14)::(0,15)::(0,16)::(0,17)::(0,18)::(3,19)::(5,20)::(0,21)::[]) ?_;clear hO;intro w9 hO;replace hf:=fa_ hO;(repeat (first|(apply zAG _ rfl rfl rfl;focus (intro w8 K8 hK8;(repeat (first | go_skip | go_guarded | go_step));exact hK8))|(apply zAJ _ rfl rfl rfl;focus (intro w8 hx8 K8 hK8;have hO:=hO.ext hx8;(replace hf:=fa_ hO);skip;(repeat (first | go_skip | go_guarded | go_step));exact hK8))|(apply zAL _ rfl;(focus (intro w8 hx8 K8 hK8;have hO:=hO.ext hx8;(replace hf:=fa_ hO);(repeat (first | go_skip | go_guarded | go_step | (go_at_call 217;(with_reducible refine Calls.mono (HT _) ?_;rintro e7 w7 ⟨rfl,hx7⟩;dsimp only))));(first | exact xt_ | exact hK8 _ xt_)));(focus (exact rfl));intro w8 hx8;replace hO:=hO.ext hx8;clear hx8;(replace hf:=fa_ hO)))));(refine zAE rfl ?_;intro K8 hK8;(repeat (first | go_skip | go_guarded | go_step));(go_at_call 144;(with_reducible refine Does.use hO (HW) tk_ (du_ ?_);clear hO hf;intro x9 w9 hO hf));(repeat go_step);refine hK8 _ _ trivial ?_;clear hK8 K8);(refine ss_ hO ?_;clear hO hf;intro w9 hO hf);refine zAA ?_;go_wp2_with (refine sq_ ?_;clear hO hf;intro w9 hO hf);go_ret;exact ⟨(),rfl,hO.give tk_ kp_⟩
  ·have HE2:d.lays (ows (frm+u) (first+u) C)=(0,e):=by
    have:=HE.out
    rwa [List.take_of_length_le (by omega)] at this
   have HR2:=HRES.out;unfold lws at HR2;rw [zHC HE2,hC] at HR2;clear HRES HE HE2;by_cases hend:u+n+1<many
   ·rw [if_pos hend,zLY] at HR2;dsimp only at HR2;have HW:=zCH p e ((frm+(u+n+1):Nat):Int) ⟨#[]⟩ hDe.f1 hDe.f2 (by have:=hDe.wait;omega);rw [HR2,show ((frm+(u+n+1):Nat):Int)=(frm:Int)+((u:Int)+n+1) from by omega] at HW;obtain ⟨rc,e2⟩:=res;dsimp only at HW ⊢;clear HR2;go_wp2_with (refine sq_ ?_;clear hO;(try clear hf);intro w9 hO hf);(refine rg_ hO ((0,0)::(0,1)::(0,2)::(1,3)::(0,4)::(0,5)::(0,6)::(1,7)::(0,8)::(0,9)::(5,10)::(0,11)::[]) ?_;clear hO;intro w9 hO;replace hf:=fa_ hO;(refine ss_ hO ?_;clear hO hf;intro w9 hO hf));(refine zAE rfl ?_;intro K8 hK8;(repeat (first | go_skip | go_guarded | go_step));(go_at_call 144;(with_reducible refine Does.use hO (HW) tk_ (du_ ?_);clear hO hf;intro x9 w9 hO hf));(repeat go_step);refine hK8 _ _ trivial ?_;clear hK8 K8);(refine ss_ hO ?_;clear hO hf;intro w9 hO hf);refine zAA ?_;go_wp2_with (refine sq_ ?_;clear hO hf;intro w9 hO hf);go_ret;exact ⟨(),rfl,hO.give tk_ kp_⟩
   ·rw [if_neg hend,Dk.lays] at HR2;subst HR2;go_wp2_with (refine sq_ ?_;clear hO;(try clear hf);intro w9 hO hf);go_ret;exact ⟨(),rfl,hO.give tk_ kp_⟩
theorem DkOk.lays {k:Nat}:∀(ws:List (Nat×ByteArray)) (j:Nat) (d:Dk),DkOk k j d→DkOk k (j+ws.length) (d.lays ws).2
 | [],j,d,h=>h
 | t::ws,j,d,h=>by
  have h1:=h.write t.1 t.2;have h2:=DkOk.lays ws (j+1) _ h1;rw [Dk.lays,List.length_cons];split
  ·rwa [show j+(ws.length+1)=j+1+ws.length from by omega]
  ·exact ⟨h1.now,h1.kept,h1.f1,h1.f2,by have:=h1.wait;omega,h1.ats⟩
theorem zKO {k:Nat}:∀(ws:List (Nat×ByteArray)) (j:Nat) (d:Dk),DkOk k j d→(∀t∈ws,t.1<k∧t.2.size≤96)→(d.lays ws).1=0∨(d.lays ws).1=10
 | [],j,d,h,_=>.inl rfl
 | t::ws,j,d,h,hw=>by
  have ht:=hw t (List.mem_cons_self ..);rw [Dk.lays];split
  ·exact zKO ws (j+1) _ (h.write t.1 t.2) fun x hx=>hw x (List.mem_cons_of_mem _ hx)
  ·rename_i hne;rcases zDG (d:=d) (n:=t.1) (s:=t.2) (by rw [h.now];exact ht.1) ht.2 with h0 | h0
   ·exact absurd h0 hne
   ·exact .inr h0
theorem zOk (frm many first u:Nat) (C:List Ch):(lws frm many first u C).length≤C.length+1:=by
 have e:∀(C:List Ch) (p n:Nat),(ows p n C).length=C.length:=fun C=>by
  induction C with
  | nil=>intro p n;rfl
  | cons c C ih=>intro p n;rw [ows,List.length_cons,List.length_cons,ih]
 unfold lws;rw [List.length_append,e];split<;>simp
theorem zD7 (d:Dk):d.flush.1=0∨d.flush.1=10:=by
 unfold Dk.flush;split
 ·exact .inl rfl
 ·exact .inr rfl
section
variable {d d1 d2 d3:Dk} {frm many first u:Nat} {C:List Ch}
theorem zTU (h:(d.lays (lws frm many first u C)).1≠0):d.addD frm many first u C=d.lays (lws frm many first u C):=by unfold Dk.addD;rw [if_neg h]
theorem zTR (h:d.lays (lws frm many first u C)=(0,d1)) (h1:d1.flush.1≠0):d.addD frm many first u C=d1.flush:=by
 unfold Dk.addD;rw [h];dsimp only;rw [if_pos rfl,if_neg h1]
theorem zTn (h:d.lays (lws frm many first u C)=(0,d1)) (h1:d1.flush=(0,d2)) (h2:(d2.writeR ((frm+(u+C.length):Nat):Int) (secB 99 (first+(u+C.length)) (four C.length))).1≠0) :
 d.addD frm many first u C=d2.writeR ((frm+(u+C.length):Nat):Int) (secB 99 (first+(u+C.length)) (four C.length)):=by
 unfold Dk.addD;rw [h];dsimp only;rw [if_pos rfl,h1];dsimp only;rw [if_pos rfl,if_neg h2]
theorem zTa (h:d.lays (lws frm many first u C)=(0,d1)) (h1:d1.flush=(0,d2)) (h2:d2.writeR ((frm+(u+C.length):Nat):Int) (secB 99 (first+(u+C.length)) (four C.length))=(0,d3)) :
 d.addD frm many first u C=d3.flush:=by
 unfold Dk.addD;rw [h];dsimp only;rw [if_pos rfl,h1];dsimp only;rw [if_pos rfl,h2];dsimp only;rw [if_pos rfl]
end
theorem zQe (bl bc p q:Nat) (d:Dk) (k j:Nat) (frm many first u:Nat) (a:Option Addr) (n cap:Nat) (C:List Ch) (hD:DkOk k j d) (hj:j≤900000) (hC:C.length=n) (hn:n≤12) (hok:∀c∈C,ChOk c)
 (hu:u+n+1≤many) (hlen:frm+many≤k) (hk:k≤1000) (hfi:first≤10000000) {φ:World→Prop} (hφ:∀w,φ w→LibOk w∧ValsAt w a (chs C)) :
 Does Tryz.prog 214 #[.pointer (some ⟨bl,0,none⟩),.pointer (some ⟨bc,0,none⟩)] [Var bl [.pointer (some ⟨q,0,none⟩)] 231,Var bc [.slice a n cap] 36,Var q [.pointer (some ⟨p,0,none⟩),.int .i64 frm,.int .i64 many,.int .i64 first,.int .i64 u] 295,zAC p d,.imm φ]
  (fun _:Unit=>(errV (d.lays (lws frm many first u C)).1,[Var bl [.pointer (some ⟨q,0,none⟩)] 231,Var bc [.slice a n cap] 36,Var q [.pointer (some ⟨p,0,none⟩),.int .i64 frm,.int .i64 many,.int .i64 first,.int .i64 u] 295,zAC p (d.lays (lws frm many first u C)).2,.imm φ])):=by
 have HL:=zRN p q d k j frm many first u a n cap C hD hj hC hn hok hu hlen hk hfi hφ;generalize d.lays (lws frm many first u C)=r at *;obtain ⟨rc,e⟩:=r;dsimp only at HL ⊢;intro S W w L0 hO;simp only [List.cons_append,List.nil_append] at hO;(replace hf:=fa_ hO);go_enter Tryz.func214,Tryz.ntmps214;go_wp2_with (first|(go_at_call 215;(with_reducible refine Does.use hO (HL) tk_ (du_ ?_);clear hO;(try clear hf);intro x9 w9 hO hf))|(refine sq_ ?_;clear hO;(try clear hf);intro w9 hO hf));go_ret;exact ⟨(),rfl,hO.give tk_ kp_⟩
theorem zPj (bl be bc p q:Nat) (d:Dk) (k j:Nat) (frm many first u:Nat) (a:Option Addr) (n cap:Nat) (hD:DkOk k j d) (hj:j≤900000) (hn:n≤12)
 (hu:u+n+1≤many) (hlen:frm+many≤k) (hk:k≤1000) (hfi:first≤10000000) :
 Does Tryz.prog 216 #[.pointer (some ⟨bl,0,none⟩),.pointer (some ⟨be,0,none⟩),.pointer (some ⟨bc,0,none⟩)] [Var bl [.pointer (some ⟨q,0,none⟩)] 231,Var be [.int .i64 ((u:Int)+n)] 3,Var bc [.slice a n cap] 36,Var q [.pointer (some ⟨p,0,none⟩),.int .i64 frm,.int .i64 many,.int .i64 first,.int .i64 u] 295,zAC p d]
  (fun _:Unit=>(errV (d.writeR ((frm+(u+n):Nat):Int) (secB 99 (first+(u+n)) (four n))).1,[Var bl [.pointer (some ⟨q,0,none⟩)] 231,Var be [.int .i64 ((u:Int)+n)] 3,Var bc [.slice a n cap] 36,Var q [.pointer (some ⟨p,0,none⟩),.int .i64 frm,.int .i64 many,.int .i64 first,.int .i64 u] 295,zAC p (d.writeR ((frm+(u+n):Nat):Int) (secB 99 (first+(u+n)) (four n))).2])):=by
 have HF:=fun w=>zFV n w (by omega)
 have h4:=zAw n;have HT:=fun w=>zMP 99 (first+(u+n)) (four n) w (.inr rfl) (by omega) (by omega)
 rw [show UInt8.ofNat (99:Int).toNat=99 from rfl,show ((first+(u+n):Nat):Int)=(first:Int)+((u:Int)+n) from by omega] at HT;have HW:=zCH p d ((frm+(u+n):Nat):Int) (secB 99 (first+(u+n)) (four n)) hD.f1 hD.f2 (by have:=hD.wait;omega);generalize secB 99 (first+(u+n)) (four n)=z at *;generalize four n=y at *;rw [show ((frm+(u+n):Nat):Int)=(frm:Int)+((u:Int)+n) from by omega] at HW ⊢;generalize d.writeR ((frm:Int)+((u:Int)+n)) z=r at *;obtain ⟨rc,e⟩:=r;dsimp only at HW ⊢;intro S W w L0 hO;simp only [List.cons_append,List.nil_append] at hO;(replace hf:=fa_ hO);go_enter Tryz.func216,Tryz.ntmps216;go_wp2_with (refine sq_ ?_;clear hO;(try clear hf);intro w9 hO hf);(refine rg_ hO ((1,0)::(0,1)::(0,2)::(1,3)::(1,4)::(0,5)::(0,6)::(1,7)::(1,8)::(0,9)::(1,10)::(0,11)::(0,12)::(1,13)::(1,14)::(0,15)::(1,16)::(1,17)::(3,18)::(3,19)::(5,20)::(0,21)::[]) ?_;clear hO;intro w9 hO;replace hf:=fa_ hO;(repeat (first|(apply zAG _ rfl rfl rfl;focus (intro w8 K8 hK8;(repeat (first | go_skip | go_guarded | go_step));exact hK8))|(apply zAJ _ rfl rfl rfl;focus (intro w8 hx8 K8 hK8;have hO:=hO.ext hx8;(replace hf:=fa_ hO);skip;(repeat (first | go_skip | go_guarded | go_step));exact hK8))|(apply zAL _ rfl;(focus (intro w8 hx8 K8 hK8;have hO:=hO.ext hx8;(replace hf:=fa_ hO);(repeat (first | go_skip | go_guarded | go_step | (first|(go_at_call 218;(with_reducible refine Calls.mono (HF _) ?_;rintro e7 w7 ⟨rfl,hx7⟩;dsimp only))|(go_at_call 217;(with_reducible refine Calls.mono (HT _) ?_;rintro e7 w7 ⟨rfl,hx7⟩;dsimp only)))));(first | exact xt_ | exact hK8 _ xt_)));(focus (exact rfl));intro w8 hx8;replace hO:=hO.ext hx8;clear hx8;(replace hf:=fa_ hO)))));(refine zAE rfl ?_;intro K8 hK8;(repeat (first | go_skip | go_guarded | go_step));(go_at_call 144;(with_reducible refine Does.use hO (HW) tk_ (du_ ?_);clear hO;(try clear hf);intro x9 w9 hO hf));(repeat go_step);refine hK8 _ _ trivial ?_;clear hK8 K8);(refine ss_ hO ?_;clear hO;(try clear hf);intro w9 hO hf);refine zAA ?_;go_wp2_with (refine sq_ ?_;clear hO;(try clear hf);intro w9 hO hf);go_ret;exact ⟨(),rfl,hO.give tk_ kp_⟩
def stg (d:Dk) (frm many first u:Nat) (C:List Ch):Nat→Dk→Prop
 | 0,e=>e=d
 | 1,e=>d.lays (lws frm many first u C)=(0,e)
 | 2,e=>∃d1,d.lays (lws frm many first u C)=(0,d1)∧d1.flush=(0,e)
 | 3,e=>∃d1 d2,d.lays (lws frm many first u C)=(0,d1)∧d1.flush=(0,d2)∧d2.writeR ((frm+(u+C.length):Nat):Int) (secB 99 (first+(u+C.length)) (four C.length))=(0,e)
 | 4,e=>d.addD frm many first u C=(0,e)
 | _,_=>False
def zEP (c u n:Nat):Nat:=if c=0 then u+n+1 else u
theorem zL6 (p q:Nat) (d:Dk) (k j:Nat) (frm many first u:Nat) (a:Option Addr) (n cap:Nat) (C:List Ch) (hD:DkOk k j d) (hj:j≤800000) (hC:C.length=n) (hn:n≤12) (hok:∀c∈C,ChOk c)
 (hu:u+n+1≤many) (hlen:frm+many≤k) (hk:k≤1000) (hfi:first≤10000000) {φ:World→Prop} (hφ:∀w,φ w→LibOk w∧ValsAt w a (chs C)) :
 Does Tryz.prog 152 #[.pointer (some ⟨q,0,none⟩),.slice a n cap] [Var q [.pointer (some ⟨p,0,none⟩),.int .i64 frm,.int .i64 many,.int .i64 first,.int .i64 u] 295,zAC p d,.imm φ]
  (fun _:Unit=>(errV (d.addD frm many first u C).1,[Var q [.pointer (some ⟨p,0,none⟩),.int .i64 frm,.int .i64 many,.int .i64 first,.int .i64 (zEP (d.addD frm many first u C).1 u n:Nat)] 295,zAC p (d.addD frm many first u C).2,.imm φ])):=by
 have HR:=zCb p q frm many first u (by omega) (by omega);have HOK:=Lib.hid hok;intro S W w L0 hO;simp only [List.cons_append,List.nil_append] at hO;have hmf:∀(fn:Fn) (first cap:Array Value) (w:World),(Instr.makeFunc fn first cap).run Tryz.prog w=.ok (.func fn first cap) w:=fun _ _ _ _=>rfl
 have hu2:(u:Int)+n+1≤many:=by omega
 (replace hf:=fa_ hO);go_enter Tryz.func152,Tryz.ntmps152;go_wp2_with (refine sq_ ?_;clear hO;(try clear hf);intro w9 hO hf);(refine rg_ hO ((1,0)::(1,1)::(0,2)::(1,3)::(3,4)::(0,5)::[]) ?_;clear hO;intro w9 hO;replace hf:=fa_ hO;(repeat (first|(apply zAG _ rfl rfl rfl;focus (intro w8 K8 hK8;(repeat (first | go_skip | go_guarded | go_step));exact hK8))|(apply zAJ _ rfl rfl rfl;focus (intro w8 hx8 K8 hK8;have hO:=hO.ext hx8;(replace hf:=fa_ hO);skip;(repeat (first | go_skip | go_guarded | go_step));exact hK8))|(apply zAL _ rfl;(focus (intro w8 hx8 K8 hK8;have hO:=hO.ext hx8;(replace hf:=fa_ hO);(repeat (first | go_skip | go_guarded | go_step | (go_at_call 151;(with_reducible refine Reads.use hO (HR) tk_ ?_;intro w7 hx7 hO7;clear hO7;dsimp only))));(first | exact xt_ | exact hK8 _ xt_)));(focus (exact rfl));intro w8 hx8;replace hO:=hO.ext hx8;clear hx8;(replace hf:=fa_ hO)))));refine zAA ?_;go_wp2_with (refine sq_ ?_;clear hO;(try clear hf);intro w9 hO hf);obtain ⟨bl,hg9⟩:=(hO.pick (r:=Var _ [.pointer (some ⟨q,0,none⟩)] 231) pk_).named;rw [←hg9] at hO ⊢;clear hg9;obtain ⟨bc,hg9⟩:=(hO.pick (r:=Var _ [.slice a n cap] 36) pk_).named;rw [←hg9] at hO ⊢;clear hg9;have hO9:=hO;clear hO hf;go_loopw [25] (fun v wr=>∃(i:Nat),v=.int .i64 i∧i≤n∧Own S W wr ([Var bl [.pointer (some ⟨q,0,none⟩)] 231,Var bc [.slice a n cap] 36,Var q [.pointer (some ⟨p,0,none⟩),.int .i64 frm,.int .i64 many,.int .i64 first,.int .i64 u] 295,zAC p d,.imm φ]++L0)) (fun v _=>n-(intOf v).toNat)
 case atStart=>exact ⟨0,rfl,by omega,(by (try simp only [CA]);exact hO9.cut sb_)⟩
 case round=>
  clear hO9;obtain ⟨i,rfl,hi,hO⟩:=hrel;rename World=>w1
  simp only [List.cons_append,List.nil_append] at hO;(replace hf:=fa_ hO);by_cases hlt:i<n
  ·have hi2:i<C.length:=by omega
   obtain ⟨b,off,rfl⟩:=ChAt.some (a:=a) ((hφ _ (Own.immOf (φ:=φ) hO pk_)).2) (by omega);obtain ⟨c0,c1,c2⟩:=ChAt.at (w:=w1) (l:=C) (b:=b) (off:=off) ((hφ _ (Own.immOf (φ:=φ) hO pk_)).2) hi2;have hcok:=HOK.out _ (List.getElem_mem hi2);generalize C[i]=c at *;have hks:=zBQ hcok.1;have hvs:=hcok.2.2;have HB:=fun w h=>zAu c w h (by omega) (by omega)
   rw [zCj hcok,show errV 0=.nilIface from rfl] at HB;unfold Ch.v at HB;go_wp2_with (first|(go_at_call 149;(with_reducible apply Calls.mono (HB _ (hφ _ (Own.immOf (φ:=φ) hO pk_)).1);refine cu_ ?_;clear hO;(try clear hf);intro w8 hO hf))|(refine sq_ ?_;clear hO;(try clear hf);intro w9 hO hf));refine ⟨⟨i+1,by go_num,by omega,?_⟩,by simp [intOf];omega⟩;(try simp only [CA]);exact hO.cut sb_
  ·go_wp2_with (refine sq_ ?_;clear hO;(try clear hf);intro w9 hO hf);(refine rg_ hO ((1,0)::(0,1)::(0,2)::(1,3)::(1,4)::(1,5)::(0,6)::(4,7)::(5,8)::[]) ?_;clear hO;intro w9 hO;replace hf:=fa_ hO;(refine ss_ hO ?_;clear hO;(try clear hf);intro w9 hO hf));(refine zBt rfl ?_;intro K8 hK8;(repeat (first | go_skip | go_guarded | go_step));refine hK8 _ _ xt_ ?_;clear hK8 K8;with_reducible refine zAV hO ?_;clear hO;intro w9 hO;(replace hf:=fa_ hO));(refine ss_ hO ?_;clear hO;(try clear hf);intro w9 hO hf);(refine zAE rfl ?_;intro K8 hK8;(repeat (first | go_skip | go_guarded | go_step));refine hK8 _ _ trivial ?_;clear hK8 K8;with_reducible apply zA0;(focus (exact st_ hO));clear hO;intro w9 hO;(try dsimp only [List.set] at hO);(replace hf:=fa_ hO));refine zAA ?_;go_wp2_with (refine sq_ ?_;clear hO;(try clear hf);intro w9 hO hf);(refine rg_ hO ((0,0)::(1,1)::(0,2)::(0,3)::(1,4)::(0,5)::(0,6)::(1,7)::(0,8)::(0,9)::(1,10)::(0,11)::(0,14)::(4,12)::(1,13)::[]) ?_;clear hO;intro w9 hO;replace hf:=fa_ hO;(refine ss_ hO ?_;clear hO;(try clear hf);intro w9 hO hf));(refine zBt rfl ?_;intro K8 hK8;(repeat (first | go_skip | go_guarded | go_step));refine hK8 _ _ xt_ ?_;clear hK8 K8;with_reducible refine zAV hO ?_;clear hO;intro w9 hO;(replace hf:=fa_ hO));(refine ss_ hO ?_;clear hO;(try clear hf);intro w9 hO hf);refine zAA ?_;go_wp2_with (refine sq_ ?_;clear hO;(try clear hf);intro w9 hO hf);obtain ⟨be,hg9⟩:=(hO.pick (r:=Var _ [.int .i64 ((u:Int)+n)] 3) pk_).named;rw [←hg9] at hO ⊢;clear hg9;obtain ⟨bf,hg9⟩:=(hO.pick (r:=Var _ _ 56) pk_).named;rw [←hg9] at hO ⊢;clear hg9;have hO9:=hO;clear hO hf;go_loopw [56] (fun v wr=>∃(i:Nat) (e:Dk),v=.int .i64 i∧Hid (stg d frm many first u C i e)∧DkOk k (j+20*i) e∧Own S W wr ([Var bl [.pointer (some ⟨q,0,none⟩)] 231,Var bc [.slice a n cap] 36,Var be [.int .i64 ((u:Int)+n)] 3,Var bf [.func (.func 214) #[] #[.pointer (some ⟨bl,0,none⟩),.pointer (some ⟨bc,0,none⟩)],.func (.func 145) #[.pointer (some ⟨p,0,none⟩)] #[],.func (.func 216) #[] #[.pointer (some ⟨bl,0,none⟩),.pointer (some ⟨be,0,none⟩),.pointer (some ⟨bc,0,none⟩)],.func (.func 145) #[.pointer (some ⟨p,0,none⟩)] #[]] 56,Var q [.pointer (some ⟨p,0,none⟩),.int .i64 frm,.int .i64 many,.int .i64 first,.int .i64 u] 295,zAC p e,.imm φ]++L0)) (fun v _=>4-(intOf v).toNat)
   case atStart=>exact ⟨0,d,rfl,Lib.hid rfl,hD,(by (try simp only [CA]);exact hO9.cut sb_)⟩
   case round=>
    clear hO9;obtain ⟨i,e,rfl,HS,hDe,hO⟩:=hrel;rename World=>w1
    simp only [List.cons_append,List.nil_append] at hO;(replace hf:=fa_ hO)
    match i,HS with
    | 0,HS=>
     have hS:d=e:=(show e=d from HS.out).symm;subst hS;have H1:=zQe bl bc p q d k j frm many first u a n cap C hD (by omega) hC hn hok hu hlen hk hfi hφ;have hcd:=zKO (lws frm many first u C) j d hD (fun t ht=>by have:=zJW (frm:=frm) (many:=many) (first:=first) (u:=u) hok (by omega) t ht;omega);have hlen2:=zOk frm many first u C;have hD2:=hD.lays (lws frm many first u C);have hA0:=fun h=>zTU (d:=d) (frm:=frm) (many:=many) (first:=first) (u:=u) (C:=C) h
     have hst:=fun (h:(d.lays (lws frm many first u C)).1=0)=>show stg d frm many first u C 1 (d.lays (lws frm many first u C)).2 from Prod.ext h rfl
     generalize d.lays (lws frm many first u C)=r at *;obtain ⟨rc,e⟩:=r;dsimp only at H1 hcd hD2 hA0 hst;rcases hcd with rfl | rfl
     ·rw [show errV 0=.nilIface from rfl] at H1;have hD3:DkOk k (j+20*(0+1)) e:=⟨hD2.now,hD2.kept,hD2.f1,hD2.f2,by have:=hD2.wait;omega,hD2.ats⟩
      have HST:=Lib.hid (hst rfl);clear hA0 hst hD2;go_wp2_with (first|(go_at_call 214;(with_reducible refine Does.use hO (H1) tk_ (du_ ?_);clear hO;(try clear hf);intro x9 w9 hO hf))|(refine sq_ ?_;clear hO;(try clear hf);intro w9 hO hf));refine ⟨⟨1,e,by go_num,HST,hD3,?_⟩,by simp [intOf]⟩;(try simp only [CA]);exact hO.cut sb_
     ·have HA:=Lib.hid (hA0 (by omega));clear hA0 hst hD2;rw [show errV 10=.iface 124 (.int .i64 10) from rfl] at H1;go_wp2_with (first|(go_at_call 214;(with_reducible refine Does.use hO (H1) tk_ (du_ ?_);clear hO;(try clear hf);intro x9 w9 hO hf))|(refine sq_ ?_;clear hO;(try clear hf);intro w9 hO hf));go_ret;rw [HA.out];refine ⟨(),rfl,?_⟩;dsimp only;rw [show zEP 10 u n=u from rfl];exact hO.give tk_ kp_
    | 1,HS=>
     have hS:d.lays (lws frm many first u C)=(0,e):=HS.out;clear HS;have H1:=zC7 p e hDe.f1 hDe.f2 (by rw [hDe.now];omega) (by rw [hDe.now,hDe.kept]);have hcd:=zD7 e;have hD2:=hDe.flush;have hA0:=fun h=>zTR (d:=d) (frm:=frm) (many:=many) (first:=first) (u:=u) (C:=C) hS (d1:=e) h
     have hst:=fun (h:e.flush.1=0)=>show stg d frm many first u C 2 e.flush.2 from ⟨e,hS,Prod.ext h rfl⟩
     clear hS;generalize e.flush=r at *;obtain ⟨rc,e'⟩:=r;dsimp only at H1 hcd hD2 hA0 hst;rcases hcd with rfl | rfl
     ·rw [show errV 0=.nilIface from rfl] at H1;have hD3:DkOk k (j+20*(1+1)) e':=⟨hD2.now,hD2.kept,hD2.f1,hD2.f2,by have:=hD2.wait;omega,hD2.ats⟩
      have HST:=Lib.hid (hst rfl);clear hA0 hst hD2;go_wp2_with (first|(go_at_call 145;(with_reducible refine Does.use hO (H1) tk_ (du_ ?_);clear hO;(try clear hf);intro x9 w9 hO hf))|(refine sq_ ?_;clear hO;(try clear hf);intro w9 hO hf));refine ⟨⟨2,e',by go_num,HST,hD3,?_⟩,by simp [intOf]⟩;(try simp only [CA]);exact hO.cut sb_
     ·have HA:=Lib.hid (hA0 (by omega));clear hA0 hst hD2;rw [show errV 10=.iface 124 (.int .i64 10) from rfl] at H1;go_wp2_with (first|(go_at_call 145;(with_reducible refine Does.use hO (H1) tk_ (du_ ?_);clear hO;(try clear hf);intro x9 w9 hO hf))|(refine sq_ ?_;clear hO;(try clear hf);intro w9 hO hf));go_ret;rw [HA.out];refine ⟨(),rfl,?_⟩;dsimp only;rw [show zEP 10 u n=u from rfl];exact hO.give tk_ kp_
    | 2,HS=>
     obtain ⟨d1,hS,hS1⟩:∃d1,d.lays (lws frm many first u C)=(0,d1)∧d1.flush=(0,e):=HS.out;clear HS;have H1:=zPj bl be bc p q e k (j+20*2) frm many first u a n cap hDe (by omega) hn hu hlen hk hfi;rw [←hC] at H1;have hcd:=zDG (d:=e) (n:=frm+(u+C.length)) (s:=secB 99 (first+(u+C.length)) (four C.length)) (by rw [hDe.now];omega) (by rw [zDZ,zAw];omega);have hD2:=hDe.write ((frm+(u+C.length):Nat):Int) (secB 99 (first+(u+C.length)) (four C.length));have hA0:=fun h=>zTn (d:=d) (frm:=frm) (many:=many) (first:=first) (u:=u) (C:=C) hS hS1 h
     have hst:=fun (h:(e.writeR ((frm+(u+C.length):Nat):Int) (secB 99 (first+(u+C.length)) (four C.length))).1=0)=>show stg d frm many first u C 3 (e.writeR ((frm+(u+C.length):Nat):Int) (secB 99 (first+(u+C.length)) (four C.length))).2 from ⟨d1,e,hS,hS1,Prod.ext h rfl⟩
     clear hS hS1;generalize e.writeR ((frm+(u+C.length):Nat):Int) (secB 99 (first+(u+C.length)) (four C.length))=r at *;rw [hC] at H1;obtain ⟨rc,e'⟩:=r;dsimp only at H1 hcd hD2 hA0 hst;rcases hcd with rfl | rfl
     ·rw [show errV 0=.nilIface from rfl] at H1;have hD3:DkOk k (j+20*(2+1)) e':=⟨hD2.now,hD2.kept,hD2.f1,hD2.f2,by have:=hD2.wait;omega,hD2.ats⟩
      have HST:=Lib.hid (hst rfl);clear hA0 hst hD2;go_wp2_with (first|(go_at_call 216;(with_reducible refine Does.use hO (H1) tk_ (du_ ?_);clear hO;(try clear hf);intro x9 w9 hO hf))|(refine sq_ ?_;clear hO;(try clear hf);intro w9 hO hf));refine ⟨⟨3,e',by go_num,HST,hD3,?_⟩,by simp [intOf]⟩;(try simp only [CA]);exact hO.cut sb_
     ·have HA:=Lib.hid (hA0 (by omega));clear hA0 hst hD2;rw [show errV 10=.iface 124 (.int .i64 10) from rfl] at H1;go_wp2_with (first|(go_at_call 216;(with_reducible refine Does.use hO (H1) tk_ (du_ ?_);clear hO;(try clear hf);intro x9 w9 hO hf))|(refine sq_ ?_;clear hO;(try clear hf);intro w9 hO hf));go_ret;rw [HA.out];refine ⟨(),rfl,?_⟩;dsimp only;rw [show zEP 10 u n=u from rfl];exact hO.give tk_ kp_
    | 3,HS=>
     obtain ⟨d1,d2,hS,hS1,hS2⟩:∃d1 d2,d.lays (lws frm many first u C)=(0,d1)∧d1.flush=(0,d2)∧d2.writeR ((frm+(u+C.length):Nat):Int) (secB 99 (first+(u+C.length)) (four C.length))=(0,e):=HS.out;clear HS;have H1:=zC7 p e hDe.f1 hDe.f2 (by rw [hDe.now];omega) (by rw [hDe.now,hDe.kept]);have hcd:=zD7 e;have hD2:=hDe.flush;have hA0:=zTa (d:=d) (frm:=frm) (many:=many) (first:=first) (u:=u) (C:=C) hS hS1 hS2;have hst:=fun (h:e.flush.1=0)=>show stg d frm many first u C 4 e.flush.2 from hA0.trans (Prod.ext h rfl)
     clear hS hS1 hS2;generalize e.flush=r at *;obtain ⟨rc,e'⟩:=r;dsimp only at H1 hcd hD2 hA0 hst;rcases hcd with rfl | rfl
     ·rw [show errV 0=.nilIface from rfl] at H1;have hD3:DkOk k (j+20*(3+1)) e':=⟨hD2.now,hD2.kept,hD2.f1,hD2.f2,by have:=hD2.wait;omega,hD2.ats⟩
      have HST:=Lib.hid (hst rfl);clear hA0 hst hD2;go_wp2_with (first|(go_at_call 145;(with_reducible refine Does.use hO (H1) tk_ (du_ ?_);clear hO;(try clear hf);intro x9 w9 hO hf))|(refine sq_ ?_;clear hO;(try clear hf);intro w9 hO hf));refine ⟨⟨4,e',by go_num,HST,hD3,?_⟩,by simp [intOf]⟩;(try simp only [CA]);exact hO.cut sb_
     ·have HA:=Lib.hid hA0;clear hA0 hst hD2;rw [show errV 10=.iface 124 (.int .i64 10) from rfl] at H1;go_wp2_with (first|(go_at_call 145;(with_reducible refine Does.use hO (H1) tk_ (du_ ?_);clear hO;(try clear hf);intro x9 w9 hO hf))|(refine sq_ ?_;clear hO;(try clear hf);intro w9 hO hf));go_ret;rw [HA.out];refine ⟨(),rfl,?_⟩;dsimp only;rw [show zEP 10 u n=u from rfl];exact hO.give tk_ kp_
    | 4,HS=>
     have hS:d.addD frm many first u C=(0,e):=HS.out;have HA:=Lib.hid hS;clear hS HS;go_wp2_with (refine sq_ ?_;clear hO;(try clear hf);intro w9 hO hf);go_ret;rw [HA.out];refine ⟨(),rfl,?_⟩;dsimp only;rw [show ((zEP 0 u n:Nat):Int)=(u:Int)+n+1 from by rw [show zEP 0 u n=u+n+1 from rfl];omega];exact hO.give tk_ kp_
    | i+5,HS=>exact HS.out.elim
noncomputable def zBW:List Ch→Nat
 | []=>0
 | c::l=>if chN c=0 then zBW l else chN c
theorem zD4:∀{l:List Ch},zBW l=0↔∀c∈l,ChOk c
 | []=>⟨fun _ c h=>(List.not_mem_nil h).elim,fun _=>rfl⟩
 | c::l=>by
  rw [zBW];split
  ·rename_i h;rw [zD4 (l:=l)];constructor
   ·intro h2 x hx;rcases List.mem_cons.1 hx with rfl | hx
    ·exact zDy.1 h
    ·exact h2 x hx
   ·exact fun h2 x hx=>h2 x (List.mem_cons_of_mem _ hx)
  ·rename_i h;refine ⟨fun h2=>absurd h2 h,fun h2=>absurd (zCj (h2 c (List.mem_cons_self ..))) h⟩
theorem zKl:∀(l:List Ch),zBW l≤3
 | []=>by simp [zBW]
 | c::l=>by
  rw [zBW];split
  ·exact zKl l
  ·exact zPw c
