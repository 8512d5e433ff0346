/- Texts VerL, RwR, SlR, RwA, Good, SlE of this claim, laid together. -/
import Derived.Test.YtagcmjmcjpjihaaGreatDoorHC19
import Derived.Test.YtagcmjmcjpjihaaGreatDoorHC30
import Derived.Test.YtagcmjmcjpjihaaGreatDoorHC26
set_option linter.unusedVariables false
set_option linter.unusedSimpArgs false
set_option maxHeartbeats 8000000
set_option maxRecDepth 100000
namespace Go.Proofs.YtagcmjmcjpjihaaGreatDoor
def RUps (l:List Rw):Prop:=l.Pairwise fun x y=>slt x.key y.key=true
theorem RUps.head {x:Rw} {l:List Rw} (h:RUps (x::l)):∀y∈l,slt x.key y.key=true:=(List.pairwise_cons.1 h).1
theorem RUps.tail {x:Rw} {l:List Rw} (h:RUps (x::l)):RUps l:=(List.pairwise_cons.1 h).2
theorem RUps.keys {l:List Rw} (h:RUps l):(l.map Rw.key).Nodup:=by
 rw [List.Nodup,List.pairwise_map];exact List.Pairwise.imp (fun h=>zBr h) h
theorem RUps.inj {l:List Rw} (h:RUps l):∀{x y:Rw},x∈l→y∈l→x.key=y.key→x=y:=by
 induction l with
 | nil=>exact fun hx=>(List.not_mem_nil hx).elim
 | cons z l ih=>
  intro x y hx hy he;rcases List.mem_cons.1 hx with rfl | hx'<;>rcases List.mem_cons.1 hy with rfl | hy'
  ·rfl
  ·exact absurd he (zBr (h.head _ hy'))
  ·exact absurd he.symm (zBr (h.head _ hx'))
  ·exact ih h.tail hx' hy' he
theorem RUps.ext:∀{l l':List Rw},RUps l→RUps l'→(∀r,r∈l↔r∈l')→l=l'
 | [],[],_,_,_=>rfl
 | [],y::l',_,_,h=>((List.not_mem_nil ((h y).2 (List.mem_cons_self ..))).elim)
 | x::l,[],_,_,h=>((List.not_mem_nil ((h x).1 (List.mem_cons_self ..))).elim)
 | x::l,y::l',h1,h2,h=>by
  have e:x=y:=by
   rcases List.mem_cons.1 ((h x).1 (List.mem_cons_self ..)) with e | hx
   ·exact e
   rcases List.mem_cons.1 ((h y).2 (List.mem_cons_self ..)) with e | hy
   ·exact e.symm
   have a:=h1.head y hy;have b:=h2.head x hx;rw [zBR a] at b;cases b
  subst e;have e2:l=l':=RUps.ext h1.tail h2.tail fun r=>by
   constructor
   ·intro hr;rcases List.mem_cons.1 ((h r).1 (List.mem_cons_of_mem _ hr)) with rfl | h3
    ·exact absurd rfl (zBr (h1.head r hr))
    ·exact h3
   ·intro hr;rcases List.mem_cons.1 ((h r).2 (List.mem_cons_of_mem _ hr)) with rfl | h3
    ·exact absurd rfl (zBr (h2.head r hr))
    ·exact h3
  rw [e2]
def valR (l:List Rw) (k:ByteArray):ByteArray×Bool:=match l.find? (fun r=>decide (r.key=k)) with
 | some r=>(r.val,true)
 | none=>(⟨#[]⟩,false)
theorem zE7 {l:List Rw} {k:ByteArray} (h:∀r∈l,r.key≠k):valR l k=(⟨#[]⟩,false):=by
 unfold valR;rw [List.find?_eq_none.2 fun r hr=>by rw [decide_eq_true_iff];exact h r hr]
theorem zGV {l:List Rw} (h:RUps l) {r:Rw} (hr:r∈l):valR l r.key=(r.val,true):=by
 unfold valR;cases hf:l.find? (fun x=>decide (x.key=r.key)) with
 | none=>exact absurd (decide_eq_true (rfl:r.key=r.key)) (List.find?_eq_none.1 hf r hr)
 | some x=>
  have e:x.key=r.key:=by simpa using List.find?_some hf
  rw [h.inj (List.mem_of_find?_eq_some hf) hr e]
theorem zFq {l:List Rw} (h:RUps l) (k:ByteArray):(∃r∈l,r.key=k∧valR l k=(r.val,true))∨((∀r∈l,r.key≠k)∧valR l k=(⟨#[]⟩,false)):=by
 by_cases hk:∃r∈l,r.key=k
 ·obtain ⟨r,hr,rfl⟩:=hk;exact .inl ⟨r,hr,rfl,zGV h hr⟩
 ·have h1:∀r∈l,r.key≠k:=fun r hr he=>hk ⟨r,hr,he⟩
  exact .inr ⟨h1,zE7 h1⟩
theorem zLg {l:List Rw} (h:RUps l) (k v:ByteArray):valR l k=(v,true)↔(⟨k,v⟩:Rw)∈l:=by
 rcases zFq h k with ⟨r,hr,rfl,hv⟩ | ⟨hn,hv⟩
 ·rw [hv];constructor
  ·intro e;injection e with e;rw [←e];exact hr
  ·intro hm;rw [←h.inj hm hr rfl]
 ·rw [hv];constructor
  ·intro e;injection e with _ e;cases e
  ·intro hm;exact absurd rfl (hn _ hm)
def appF (c:Ch):Bool→List Rw→List Rw
 | laid,[]=>if laid then [] else [⟨c.key,c.val⟩]
 | laid,x::l=>if laid=false∧slt x.key c.key=false then ⟨c.key,c.val⟩::(if x.key=c.key then appF c true l else x::appF c true l) else if x.key=c.key then appF c laid l else x::appF c laid l
def appR (l:List Rw) (c:Ch):List Rw:=appF c c.gone l
theorem zAi {c:Ch} {r:Rw}:∀{l:List Rw} {laid:Bool},r∈appF c laid l↔(r∈l∧r.key≠c.key)∨(laid=false∧r=⟨c.key,c.val⟩)
 | [],laid=>by
  cases laid<;>simp [appF]
 | x::l,laid=>by
  have i1:=zAi (c:=c) (r:=r) (l:=l) (laid:=true);have i2:=zAi (c:=c) (r:=r) (l:=l) (laid:=laid);rw [appF];by_cases h1:laid=false∧slt x.key c.key=false
  ·rw [if_pos h1];by_cases h2:x.key=c.key
   ·rw [if_pos h2,List.mem_cons,i1,List.mem_cons];constructor
    ·rintro (rfl | ⟨h3,h4⟩ | ⟨h3,_⟩)
     ·exact .inr ⟨h1.1,rfl⟩
     ·exact .inl ⟨.inr h3,h4⟩
     ·cases h3
    ·rintro (⟨rfl | h3,h4⟩ | ⟨_,h3⟩)
     ·exact absurd h2 h4
     ·exact .inr (.inl ⟨h3,h4⟩)
     ·exact .inl h3
   ·rw [if_neg h2,List.mem_cons,List.mem_cons,i1,List.mem_cons];constructor
    ·rintro (rfl | rfl | ⟨h3,h4⟩ | ⟨h3,_⟩)
     ·exact .inr ⟨h1.1,rfl⟩
     ·exact .inl ⟨.inl rfl,h2⟩
     ·exact .inl ⟨.inr h3,h4⟩
     ·cases h3
    ·rintro (⟨rfl | h3,h4⟩ | ⟨_,h3⟩)
     ·exact .inr (.inl rfl)
     ·exact .inr (.inr (.inl ⟨h3,h4⟩))
     ·exact .inl h3
  ·rw [if_neg h1];by_cases h2:x.key=c.key
   ·rw [if_pos h2,i2,List.mem_cons];constructor
    ·rintro (⟨h3,h4⟩ | h3)
     ·exact .inl ⟨.inr h3,h4⟩
     ·exact .inr h3
    ·rintro (⟨rfl | h3,h4⟩ | h3)
     ·exact absurd h2 h4
     ·exact .inl ⟨h3,h4⟩
     ·exact .inr h3
   ·rw [if_neg h2,List.mem_cons,i2,List.mem_cons];constructor
    ·rintro (rfl | ⟨h3,h4⟩ | h3)
     ·exact .inl ⟨.inl rfl,h2⟩
     ·exact .inl ⟨.inr h3,h4⟩
     ·exact .inr h3
    ·rintro (⟨rfl | h3,h4⟩ | h3)
     ·exact .inl rfl
     ·exact .inr (.inl ⟨h3,h4⟩)
     ·exact .inr (.inr h3)
theorem zBC {c:Ch}:∀{l:List Rw} {laid:Bool},RUps l→RUps (appF c laid l)
 | [],laid,_=>by cases laid<;>simp [appF,RUps]
 | x::l,laid,h=>by
  have i1:=zBC (c:=c) (laid:=true) h.tail;have i2:=zBC (c:=c) (laid:=laid) h.tail;have hd:=h.head;rw [appF];by_cases h1:laid=false∧slt x.key c.key=false
  ·rw [if_pos h1];by_cases h2:x.key=c.key
   ·rw [if_pos h2];refine List.pairwise_cons.2 ⟨fun y hy=>?_,i1⟩;rcases zAi.1 hy with ⟨h3,_⟩ | ⟨h3,_⟩
    ·exact h2 ▸ hd y h3
    ·cases h3
   ·rw [if_neg h2];have hx:slt c.key x.key=true:=zDp h1.2 h2;refine List.pairwise_cons.2 ⟨fun y hy=>?_,List.pairwise_cons.2 ⟨fun y hy=>?_,i1⟩⟩
    ·rcases List.mem_cons.1 hy with rfl | hy
     ·exact hx
     rcases zAi.1 hy with ⟨h3,_⟩ | ⟨h3,_⟩
     ·exact zAv hx (hd y h3)
     ·cases h3
    ·rcases zAi.1 hy with ⟨h3,_⟩ | ⟨h3,_⟩
     ·exact hd y h3
     ·cases h3
  ·rw [if_neg h1];by_cases h2:x.key=c.key
   ·rw [if_pos h2];exact i2
   ·rw [if_neg h2];refine List.pairwise_cons.2 ⟨fun y hy=>?_,i2⟩;rcases zAi.1 hy with ⟨h3,_⟩ | ⟨h3,rfl⟩
    ·exact hd y h3
    ·show slt x.key c.key=true;cases hs:slt x.key c.key with
     | true=>rfl
     | false=>exact absurd ⟨h3,hs⟩ h1
theorem zLp {l:List Rw} (h:RUps l) (c:Ch) (k:ByteArray):valR (appR l c) k=if c.key=k then (if c.gone then (⟨#[]⟩,false) else (c.val,true)) else valR l k:=by
 have hu:RUps (appR l c):=zBC h;by_cases hk:c.key=k
 ·subst hk;rw [if_pos rfl];cases hg:c.gone with
  | true=>
   rw [if_pos rfl];refine zE7 fun r hr=>?_
   rcases zAi.1 hr with ⟨_,h4⟩ | ⟨h3,_⟩
   ·exact h4
   ·rw [hg] at h3;cases h3
  | false=>
   rw [if_neg (by simp)];exact (zLg hu _ _).2 (zAi.2 (.inr ⟨hg,rfl⟩))
 ·rw [if_neg hk];rcases zFq h k with ⟨r,hr,rfl,hv⟩ | ⟨hn,hv⟩
  ·rw [hv];exact zGV hu (zAi.2 (.inl ⟨hr,fun e=>hk e.symm⟩))
  ·rw [hv];refine zE7 fun r hr=>?_
   rcases zAi.1 hr with ⟨h3,_⟩ | ⟨_,rfl⟩
   ·exact hn r h3
   ·exact hk
structure VInv (nn:Nat) (V:List (ByteArray×List Vn)):Prop where
 keys:(V.map (·.1)).Nodup
 le:∀e∈V,∀v∈e.2,v.n≤nn
 up:∀e∈V,e.2.Pairwise fun a b=>a.n<b.n
 gone:∀e∈V,∀v∈e.2,v.gone=true→v.val=⟨#[]⟩
theorem zMl (vs:List Vn) (x:Vn) (n:Int):atV (vs++[x]) n=if (x.n:Int)≤n then (x.val,!x.gone) else atV vs n:=by
 unfold atV;rw [List.reverse_append,List.reverse_cons,List.reverse_nil,List.nil_append,List.singleton_append,List.find?_cons];by_cases h:(x.n:Int)≤n
 ·rw [decide_eq_true h,if_pos h]
 ·rw [decide_eq_false h,if_neg h]
theorem zFg (x:Vn) (vs:List Vn) (n:Int):atV (x::vs) n=if ∃y∈vs,(y.n:Int)≤n then atV vs n else if (x.n:Int)≤n then (x.val,!x.gone) else (⟨#[]⟩,false):=by
 unfold atV;rw [List.reverse_cons,List.find?_append];by_cases h:∃y∈vs,(y.n:Int)≤n
 ·rw [if_pos h];obtain ⟨y,hy,hn⟩:=h;cases hf:vs.reverse.find? (fun v=>decide ((v.n:Int)≤n)) with
  | none=>exact absurd hn (by simpa using List.find?_eq_none.1 hf y (List.mem_reverse.2 hy))
  | some z=>rfl
 ·rw [if_neg h];have hf:vs.reverse.find? (fun v=>decide ((v.n:Int)≤n))=none:=List.find?_eq_none.2 fun y hy=>by
   rw [decide_eq_true_iff];exact fun hn=>h ⟨y,List.mem_reverse.1 hy,hn⟩
  rw [hf,Option.none_or,List.find?_cons];by_cases hx:(x.n:Int)≤n
  ·rw [decide_eq_true hx,if_pos hx]
  ·rw [decide_eq_false hx,if_neg hx];rfl
theorem zRc {vs:List Vn} {nn:Nat} {m:Int} (h:∀v∈vs,v.n≤nn) (hm:(nn:Int)≤m):atV vs m=atV vs nn:=by
 induction vs with
 | nil=>rfl
 | cons x vs ih=>
  have hx:=h x (List.mem_cons_self ..);have h2:∀v∈vs,v.n≤nn:=fun v hv=>h v (List.mem_cons_of_mem _ hv)
  have e:(∃y∈vs,(y.n:Int)≤m)↔∃y∈vs,(y.n:Int)≤(nn:Int):=by
   constructor
   ·rintro ⟨y,hy,_⟩;exact ⟨y,hy,by have:=h2 y hy;omega⟩
   ·rintro ⟨y,hy,_⟩;exact ⟨y,hy,by have:=h2 y hy;omega⟩
  have e2:((x.n:Int)≤m)↔((x.n:Int)≤(nn:Int)):=⟨fun _=>by omega,fun _=>by omega⟩
  rw [zFg,zFg,ih h2];simp only [e,e2]
theorem zHv {V:List (ByteArray×List Vn)} {k:ByteArray} {vs:List Vn} (h:getV V k=some vs):(k,vs)∈V:=by
 unfold getV at h;cases hf:V.find? fun e=>decide (e.1=k) with
 | none=>rw [hf] at h;cases h
 | some e=>
  rw [hf] at h;injection h with h
  have e1:e.1=k:=by simpa using List.find?_some hf
  have:=List.mem_of_find?_eq_some hf;rw [←e1,←h];exact this
theorem zBz (e:ByteArray×List Vn) (V:List (ByteArray×List Vn)) (k:ByteArray):getV (e::V) k=if e.1=k then some e.2 else getV V k:=by
 unfold getV;rw [List.find?_cons];by_cases h:e.1=k
 ·rw [decide_eq_true h,if_pos h];rfl
 ·rw [decide_eq_false h,if_neg h]
theorem zHU:∀{V:List (ByteArray×List Vn)} {k:ByteArray} {vs:List Vn},(V.map (·.1)).Nodup→(k,vs)∈V→getV V k=some vs
 | x::V,k,vs,hn,hm=>by
  rw [List.map_cons,List.nodup_cons] at hn;rw [zBz];rcases List.mem_cons.1 hm with rfl | hm
  ·rw [if_pos rfl]
  ·rw [if_neg (fun he:x.1=k=>hn.1 (he ▸ List.mem_map.2 ⟨_,hm,rfl⟩)),zHU hn.2 hm]
theorem zP4 {V:List (ByteArray×List Vn)} {k:ByteArray} (h:∀e∈V,e.1≠k):getV V k=none:=by
 unfold getV;rw [List.find?_eq_none.2 fun r hr=>by rw [decide_eq_true_iff];exact h r hr];rfl
theorem zJK {nn:Nat} {V:List (ByteArray×List Vn)} (h:VInv nn V) (k:ByteArray) {m:Int} (hm:(nn:Int)≤m):zAU V k m=zAU V k nn:=by
 unfold zAU;cases hg:getV V k with
 | none=>rfl
 | some vs=>exact zRc (h.le _ (zHv hg)) hm
theorem zLT {n:Nat} {c:Ch} (k:ByteArray):∀V:List (ByteArray×List Vn),getV (putV n V c) k=if c.key=k then some ((getV V k).getD []++[⟨n,c.val,c.gone⟩]) else getV V k
 | []=>by
  rw [putV,zBz];rfl
 | e::V=>by
  rw [putV];by_cases h1:e.1=c.key
  ·rw [if_pos h1,zBz,zBz];by_cases h2:c.key=k
   ·rw [if_pos h2,if_pos (h1.trans h2),if_pos (h1.trans h2)];rfl
   ·rw [if_neg h2,if_neg (fun h=>h2 (h1 ▸ h)),if_neg (fun h=>h2 (h1 ▸ h))]
  ·rw [if_neg h1,zBz,zBz,zLT k V];by_cases h2:c.key=k
   ·rw [if_pos h2,if_pos h2,if_neg (fun h:e.1=k=>h1 (h.trans h2.symm)),if_neg (fun h:e.1=k=>h1 (h.trans h2.symm))]
   ·rw [if_neg h2,if_neg h2]
theorem zKr {n:Nat} {c:Ch} {V:List (ByteArray×List Vn)} (k:ByteArray) (m:Int):zAU (putV n V c) k m=if c.key=k∧(n:Int)≤m then (c.val,!c.gone) else zAU V k m:=by
 unfold zAU;rw [zLT];by_cases h:c.key=k
 ·rw [if_pos h];show atV ((getV V k).getD []++[⟨n,c.val,c.gone⟩]) m=_;rw [zMl];by_cases h2:(n:Int)≤m
  ·rw [if_pos h2,if_pos ⟨h,h2⟩]
  ·rw [if_neg h2,if_neg (fun x=>h2 x.2)]
 ·rw [if_neg h,if_neg (fun x=>h x.1)]
theorem zKp {n:Nat} {c:Ch}:∀{V:List (ByteArray×List Vn)} {k:ByteArray},k∈(putV n V c).map (·.1)↔k=c.key∨k∈V.map (·.1)
 | [],k=>by simp [putV]
 | e::V,k=>by
  rw [putV];by_cases h:e.1=c.key
  ·rw [if_pos h,List.map_cons,List.map_cons,List.mem_cons];exact ⟨fun h=>.inr h,fun h'=>h'.elim (fun h'=>.inl (h'.trans h.symm)) id⟩
  ·rw [if_neg h,List.map_cons,List.map_cons,List.mem_cons,List.mem_cons,zKp (V:=V)];constructor
   ·rintro (h | h | h)
    ·exact .inr (.inl h)
    ·exact .inl h
    ·exact .inr (.inr h)
   ·rintro (h | h | h)
    ·exact .inr (.inl h)
    ·exact .inl h
    ·exact .inr (.inr h)
theorem zJS {n:Nat} {c:Ch}:∀{V:List (ByteArray×List Vn)},(V.map (·.1)).Nodup→((putV n V c).map (·.1)).Nodup
 | [],_=>by simp [putV]
 | e::V,h=>by
  rw [List.map_cons,List.nodup_cons] at h;rw [putV];by_cases h1:e.1=c.key
  ·rw [if_pos h1,List.map_cons,List.nodup_cons];exact h
  ·rw [if_neg h1,List.map_cons,List.nodup_cons];refine ⟨fun hm=>?_,zJS h.2⟩;rcases zKp.1 hm with h2 | h2
   ·exact h1 h2
   ·exact h.1 h2
theorem zEm {n:Nat} {c:Ch} {e:ByteArray×List Vn}:∀{V:List (ByteArray×List Vn)},e∈putV n V c→e∈V∨(e=(c.key,[⟨n,c.val,c.gone⟩]))∨∃x∈V,x.1=c.key∧e=(x.1,x.2++[⟨n,c.val,c.gone⟩])
 | [],h=>by
  rw [putV,List.mem_singleton] at h;exact .inr (.inl h)
 | x::V,h=>by
  rw [putV] at h;by_cases h1:x.1=c.key
  ·rw [if_pos h1] at h;rcases List.mem_cons.1 h with h | h
   ·exact .inr (.inr ⟨x,List.mem_cons_self ..,h1,h⟩)
   ·exact .inl (List.mem_cons_of_mem _ h)
  ·rw [if_neg h1] at h;rcases List.mem_cons.1 h with h | h
   ·exact .inl (h ▸ List.mem_cons_self ..)
   ·rcases zEm h with h | h | ⟨y,h2,h3⟩
    ·exact .inl (List.mem_cons_of_mem _ h)
    ·exact .inr (.inl h)
    ·exact .inr (.inr ⟨y,List.mem_cons_of_mem _ h2,h3⟩)
theorem zN1 {n:Nat} {c:Ch} {e:ByteArray×List Vn}:∀{V:List (ByteArray×List Vn)},(V.map (·.1)).Nodup→e∈putV n V c→e.1≠c.key→e∈V
 | V,hn,h,hk=>by
  rcases zEm h with h | h | ⟨x,_,h2,h3⟩
  ·exact h
  ·exact absurd (h ▸ rfl) hk
  ·exact absurd (h3 ▸ h2) hk
theorem zSU:∀{s:ByteArray},s.size=0→s=⟨#[]⟩
 | ⟨d⟩,h=>by
  have h1:d=#[]:=Array.eq_empty_of_size_eq_zero h;rw [h1]
theorem zKF:∀{l:List Ch} {k:ByteArray},zAy (some k) l=0→(∀c∈l,chN c=0∧slt k c.key=true)∧l.Pairwise fun a b=>slt a.key b.key=true
 | [],_,_=>⟨fun _ h=>(List.not_mem_nil h).elim,.nil⟩
 | c::l,k,h=>by
  rw [zAy] at h;by_cases h1:chN c≠0
  ·rw [if_pos h1] at h;exact absurd h h1
  ·rw [if_neg h1] at h;cases h2:slt k c.key with
   | false=>rw [if_pos (by simp [h2])] at h;cases h
   | true=>
    rw [if_neg (by simp [h2])] at h;obtain ⟨i1,i2⟩:=zKF h;refine ⟨fun x hx=>?_,List.pairwise_cons.2 ⟨fun x hx=>(i1 x hx).2,i2⟩⟩;rcases List.mem_cons.1 hx with rfl | hx
    ·exact ⟨by omega,h2⟩
    ·exact ⟨(i1 x hx).1,zAv h2 (i1 x hx).2⟩
theorem zOP {l:List Ch} (h:zBN l=0):(∀c∈l,chN c=0)∧l.Pairwise fun a b=>slt a.key b.key=true:=by
 cases l with
 | nil=>exact ⟨fun _ h=>(List.not_mem_nil h).elim,.nil⟩
 | cons c l=>
  unfold zBN at h;rw [zAy] at h;by_cases h1:chN c≠0
  ·rw [if_pos h1] at h;exact absurd h h1
  ·rw [if_neg h1,if_neg (by simp)] at h;obtain ⟨i1,i2⟩:=zKF h;refine ⟨fun x hx=>?_,List.pairwise_cons.2 ⟨fun x hx=>(i1 x hx).2,i2⟩⟩;rcases List.mem_cons.1 hx with rfl | hx
   ·omega
   ·exact (i1 x hx).1
structure VMid (nn:Nat) (todo:List Ch) (V:List (ByteArray×List Vn)):Prop where
 inv:VInv (nn+1) V
 old:∀e∈V,(∃c∈todo,c.key=e.1)→∀v∈e.2,v.n≤nn
theorem VMid.step {nn:Nat} {c:Ch} {C:List Ch} {V:List (ByteArray×List Vn)} (h:VMid nn (c::C) V) (hg:c.gone=true→c.val=⟨#[]⟩) (hk:∀x∈C,x.key≠c.key):VMid nn C (putV (nn+1) V c) where
 inv:={
  keys:=zJS h.inv.keys
  le:=fun e he v hv=>by
   rcases zEm he with he | rfl | ⟨x,hx,h2,rfl⟩
   ·exact h.inv.le e he v hv
   ·rw [List.mem_singleton] at hv;rw [hv];exact Nat.le_refl _
   ·rcases List.mem_append.1 hv with hv | hv
    ·exact h.inv.le x hx v hv
    ·rw [List.mem_singleton] at hv;rw [hv];exact Nat.le_refl _
  up:=fun e he=>by
   rcases zEm he with he | rfl | ⟨x,hx,h2,rfl⟩
   ·exact h.inv.up e he
   ·exact List.pairwise_singleton ..
   ·refine List.pairwise_append.2 ⟨h.inv.up x hx,List.pairwise_singleton ..,fun a ha b hb=>?_⟩;rw [List.mem_singleton] at hb;have:=h.old x hx ⟨c,List.mem_cons_self ..,h2.symm⟩ a ha;rw [hb];exact Nat.lt_succ_of_le this
  gone:=fun e he v hv=>by
   rcases zEm he with he | rfl | ⟨x,hx,h2,rfl⟩
   ·exact h.inv.gone e he v hv
   ·rw [List.mem_singleton] at hv;rw [hv];exact hg
   ·rcases List.mem_append.1 hv with hv | hv
    ·exact h.inv.gone x hx v hv
    ·rw [List.mem_singleton] at hv;rw [hv];exact hg }
 old:=fun e he ⟨x,hx,hxe⟩=>h.old e (zN1 h.inv.keys he fun h'=>hk x hx (hxe.trans h')) ⟨x,List.mem_cons_of_mem _ hx,hxe⟩
theorem VMid.all {nn:Nat}:∀{C:List Ch} {V:List (ByteArray×List Vn)},VMid nn C V→(∀c∈C,c.gone=true→c.val=⟨#[]⟩)→C.Pairwise (fun a b=>slt a.key b.key=true)→VInv (nn+1) (C.foldl (putV (nn+1)) V)
 | [],V,h,_,_=>h.inv
 | c::C,V,h,hg,hp=>by
  rw [List.pairwise_cons] at hp;exact VMid.all (C:=C) (h.step (hg c (List.mem_cons_self ..)) fun x hx=>(zBr (hp.1 x hx)).symm) (fun x hx=>hg x (List.mem_cons_of_mem _ hx)) hp.2
theorem zN7 {c:Ch} (h:chN c=0):c.gone=true→c.val=⟨#[]⟩:=by
 intro hg;by_cases hk:KeyOk c.key
 ·by_cases h3:c.val.size=0
  ·exact zSU h3
  ·rw [zMJ hk hg h3] at h;cases h
 ·rw [zP5 hk] at h;cases h
theorem VInv.commit {nn:Nat} {C:List Ch} {V:List (ByteArray×List Vn)} (h:VInv nn V):VInv (comN nn C) (zBF nn C V):=by
 unfold comN zBF;by_cases hd:zBN C=0
 ·rw [if_pos hd,if_pos hd];obtain ⟨h1,h2⟩:=zOP hd;refine VMid.all ⟨⟨h.keys,fun e he v hv=>Nat.le_succ_of_le (h.le e he v hv),h.up,h.gone⟩,fun e he _=>h.le e he⟩ (fun c hc=>zN7 (h1 c hc)) h2
 ·rw [if_neg hd,if_neg hd];exact h
theorem zLV {n:Nat} (k:ByteArray) {m:Int} (hm:m<n):∀(C:List Ch) (V:List (ByteArray×List Vn)),zAU (C.foldl (putV n) V) k m=zAU V k m
 | [],V=>rfl
 | c::C,V=>by
  rw [List.foldl_cons,zLV k hm C,zKr,if_neg (fun h=>by omega)]
theorem zPT {nn:Nat} {C:List Ch} {V:List (ByteArray×List Vn)} (k:ByteArray) {m:Int} (hm:m≤nn):zAU (zBF nn C V) k m=zAU V k m:=by
 unfold zBF;by_cases hd:zBN C=0
 ·rw [if_pos hd];exact zLV k (by omega) _ _
 ·rw [if_neg hd]
theorem zLh {n:Nat} (k:ByteArray) {m:Int} (hm:(n:Int)≤m):∀(C:List Ch) (V:List (ByteArray×List Vn)) (l:List Rw),(∀c∈C,c.gone=true→c.val=⟨#[]⟩)→RUps l→zAU V k m=valR l k→RUps (C.foldl appR l)∧zAU (C.foldl (putV n) V) k m=valR (C.foldl appR l) k
 | [],V,l,_,hl,h=>⟨hl,h⟩
 | c::C,V,l,hg,hl,h=>by
  rw [List.foldl_cons,List.foldl_cons];refine zLh k hm C _ _ (fun x hx=>hg x (List.mem_cons_of_mem _ hx)) (zBC hl) ?_;rw [zKr,zLp hl];by_cases hk:c.key=k
  ·rw [if_pos ⟨hk,hm⟩,if_pos hk];cases hgo:c.gone with
   | true=>rw [hg c (List.mem_cons_self ..) hgo];rfl
   | false=>rfl
  ·rw [if_neg (fun h=>hk h.1),if_neg hk,h]
structure Past (nn:Nat) (frm:Nat) (V:List (ByteArray×List Vn)) (past:List (List Rw)):Prop where
 inv:VInv nn V
 len:past.length=nn+1
 ups:∀l∈past,RUps l
 le:frm≤nn
 reads:∀m (h:m<past.length),frm≤m→∀k,zAU V k m=valR past[m] k
theorem Past.commit {nn frm:Nat} {V:List (ByteArray×List Vn)} {past:List (List Rw)} (h:Past nn frm V past) {C:List Ch} (hd:zBN C=0) (hl:nn<past.length):Past (nn+1) frm (zBF nn C V) (past++[C.foldl appR past[nn]]) where
 inv:=by have:=h.inv.commit (C:=C);unfold comN at this;rw [if_pos hd] at this;exact this
 len:=by rw [List.length_append,h.len];rfl
 ups:=fun l hm=>by
  rcases List.mem_append.1 hm with hm | hm
  ·exact h.ups l hm
  ·rw [List.mem_singleton] at hm;rw [hm];have hu:∀(C:List Ch) {l:List Rw},RUps l→RUps (C.foldl appR l):=fun C=>by
    induction C with
    | nil=>exact fun h=>h
    | cons c C ih=>exact fun h=>ih (zBC h)
   exact hu C (h.ups _ (List.getElem_mem hl))
 le:=Nat.le_succ_of_le h.le
 reads:=fun m hm hf k=>by
  have hlen:=h.len;by_cases h1:m<past.length
  ·rw [List.getElem_append_left h1,zPT k (by omega)];exact h.reads m h1 hf k
  ·have h2:m=nn+1:=by rw [List.length_append] at hm;simp at hm;omega
   subst h2;rw [List.getElem_append_right (by omega)];simp only [hlen,Nat.sub_self,List.getElem_cons_zero];unfold zBF;rw [if_pos hd];refine (zLh k (Int.le_refl _) C V past[nn] (fun c hc=>zN7 ((zOP hd).1 c hc)) (h.ups _ (List.getElem_mem hl)) ?_).2;rw [zJK h.inv k (by omega)];exact h.reads nn hl h.le k
theorem zSA {l:List Rw} (h:RUps l):VInv 0 (newV l) where
 keys:=by
  unfold newV;rw [List.map_map];exact h.keys
 le:=fun e he v hv=>by
  obtain ⟨r,_,rfl⟩:=List.mem_map.1 he;rw [List.mem_singleton] at hv;rw [hv];exact Nat.le_refl _
 up:=fun e he=>by
  obtain ⟨r,_,rfl⟩:=List.mem_map.1 he;exact List.pairwise_singleton ..
 gone:=fun e he v hv hg=>by
  obtain ⟨r,_,rfl⟩:=List.mem_map.1 he;rw [List.mem_singleton] at hv;rw [hv] at hg;cases hg
theorem zQf (l:List Rw) (k:ByteArray) {m:Int} (hm:0≤m):zAU (newV l) k m=valR l k:=by
 unfold zAU valR
 induction l with
 | nil=>rfl
 | cons r l ih=>
  unfold newV at ih ⊢;rw [List.map_cons,zBz,List.find?_cons];by_cases hk:r.key=k
  ·rw [decide_eq_true hk];show atV ((if r.key=k then some [(⟨0,r.val,false⟩:Vn)] else _).getD []) m=_;rw [if_pos hk];show atV ([]++[(⟨0,r.val,false⟩:Vn)]) m=_;rw [zMl,if_pos (show (((0:Nat):Int))≤m from hm)];rfl
  ·rw [decide_eq_false hk];show atV ((if r.key=k then some [(⟨0,r.val,false⟩:Vn)] else _).getD []) m=_;rw [if_neg hk];exact ih
theorem Past.new {l:List Rw} (h:RUps l):Past 0 0 (newV l) [l] where
 inv:=zSA h
 len:=rfl
 ups:=fun x hx=>by rw [List.mem_singleton] at hx;rw [hx];exact h
 le:=Nat.le_refl _
 reads:=fun m hm _ k=>by
  have:m=0:=by simp at hm;exact hm
  subst this;exact zQf l k (by omega)
theorem zE4 (n:Int):∀vs:List Vn,(zBx n vs).Sublist vs
 | []=>.slnil
 | [x]=>List.Sublist.refl _
 | x::y::l=>by
  rw [zBx];by_cases h:(y.n:Int)≤n
  ·rw [if_pos h];exact (zE4 n (y::l)).cons _
  ·rw [if_neg h];exact List.Sublist.refl _
theorem zRZ (n:Int) (vs:List Vn):(cutV n vs).Sublist vs:=by
 cases vs with
 | nil=>exact .slnil
 | cons x l=>
  rw [cutV];by_cases h:x.gone=true∧(x.n:Int)≤n
  ·rw [if_pos h];exact List.sublist_cons_self ..
  ·rw [if_neg h];exact List.Sublist.refl _
theorem zEa (n:Int) (vs:List Vn):(zAc n vs).Sublist vs:=(zRZ n _).trans (zE4 n vs)
theorem zLO {n m:Int} (hm:n≤m):∀vs:List Vn,atV (zBx n vs) m=atV vs m
 | []=>rfl
 | [x]=>rfl
 | x::y::l=>by
  rw [zBx];by_cases h:(y.n:Int)≤n
  ·rw [if_pos h,zLO hm (y::l),zFg x,if_pos ⟨y,List.mem_cons_self ..,by omega⟩]
  ·rw [if_neg h]
theorem zTN {n m:Int} (hm:n≤m) {vs:List Vn} (hg:∀v∈vs,v.gone=true→v.val=⟨#[]⟩):atV (cutV n vs) m=atV vs m:=by
 cases vs with
 | nil=>rfl
 | cons x l=>
  rw [cutV];by_cases h:x.gone=true∧(x.n:Int)≤n
  ·rw [if_pos h,zFg];by_cases h2:∃y∈l,(y.n:Int)≤m
   ·rw [if_pos h2]
   ·rw [if_neg h2,if_pos (by omega),hg x (List.mem_cons_self ..) h.1,h.1];unfold atV;rw [List.find?_eq_none.2 fun y hy=>by rw [decide_eq_true_iff];exact fun hn=>h2 ⟨y,List.mem_reverse.1 hy,hn⟩];rfl
  ·rw [if_neg h]
theorem zQH {n m:Int} (hm:n≤m) {vs:List Vn} (hg:∀v∈vs,v.gone=true→v.val=⟨#[]⟩):atV (zAc n vs) m=atV vs m:=by
 unfold zAc;rw [zTN hm fun v hv=>hg v ((zE4 n vs).subset hv),zLO hm]
theorem zEv {n:Int} {e:ByteArray×List Vn}:∀{V:List (ByteArray×List Vn)},e∈vacV n V→∃x∈V,e=(x.1,zAc n x.2)∧zAc n x.2≠[]
 | x::V,h=>by
  rw [vacV] at h;by_cases h1:zAc n x.2=[]
  ·rw [if_pos h1] at h;obtain ⟨y,hy,h2⟩:=zEv h;exact ⟨y,List.mem_cons_of_mem _ hy,h2⟩
  ·rw [if_neg h1] at h;rcases List.mem_cons.1 h with h | h
   ·exact ⟨x,List.mem_cons_self ..,h,h1⟩
   ·obtain ⟨y,hy,h2⟩:=zEv h;exact ⟨y,List.mem_cons_of_mem _ hy,h2⟩
theorem zEG (n:Int):∀V:List (ByteArray×List Vn),((vacV n V).map (·.1)).Sublist (V.map (·.1))
 | []=>.slnil
 | x::V=>by
  rw [vacV];by_cases h1:zAc n x.2=[]
  ·rw [if_pos h1];exact (zEG n V).cons _
  ·rw [if_neg h1];exact (zEG n V).cons_cons _
theorem VInv.vac {nn:Nat} {V:List (ByteArray×List Vn)} (h:VInv nn V) (n:Int):VInv nn (vacV n V) where
 keys:=h.keys.sublist (zEG n V)
 le:=fun e he v hv=>by
  obtain ⟨x,hx,rfl,_⟩:=zEv he;exact h.le x hx v ((zEa n x.2).subset hv)
 up:=fun e he=>by
  obtain ⟨x,hx,rfl,_⟩:=zEv he;exact (h.up x hx).sublist (zEa n x.2)
 gone:=fun e he v hv=>by
  obtain ⟨x,hx,rfl,_⟩:=zEv he;exact h.gone x hx v ((zEa n x.2).subset hv)
theorem zL1 {n:Int} (k:ByteArray):∀{V:List (ByteArray×List Vn)},(V.map (·.1)).Nodup→(getV (vacV n V) k).getD []=zAc n ((getV V k).getD [])
 | [],_=>rfl
 | x::V,h=>by
  rw [List.map_cons,List.nodup_cons] at h;have ih:=zL1 (n:=n) k h.2;rw [vacV,zBz];by_cases hk:x.1=k
  ·rw [if_pos hk];by_cases h1:zAc n x.2=[]
   ·rw [if_pos h1,zP4 fun e he he2=>h.1 (by rw [hk,←he2];exact (zEG n V).subset (List.mem_map.2 ⟨e,he,rfl⟩))];exact h1.symm
   ·rw [if_neg h1,zBz,if_pos hk];rfl
  ·rw [if_neg hk];by_cases h1:zAc n x.2=[]
   ·rw [if_pos h1];exact ih
   ·rw [if_neg h1,zBz,if_neg hk];exact ih
theorem zKU {nn:Nat} {V:List (ByteArray×List Vn)} (h:VInv nn V) (k:ByteArray) {n m:Int} (hm:n≤m):zAU (vacV n V) k m=zAU V k m:=by
 unfold zAU;rw [zL1 k h.keys];refine zQH hm fun v hv=>?_
 cases hg:getV V k with
 | none=>rw [hg] at hv;exact (List.not_mem_nil hv).elim
 | some vs=>rw [hg] at hv;exact h.gone _ (zHv hg) v hv
theorem zId {nn:Nat} {n:Int} (hn:(nn:Int)≤n):∀{vs:List Vn},(∀v∈vs,v.n≤nn)→zBx n vs=zBx nn vs
 | [],_=>rfl
 | [x],_=>rfl
 | x::y::l,h=>by
  have hy:=h y (List.mem_cons_of_mem _ (List.mem_cons_self ..));rw [zBx,zBx,if_pos (by omega),if_pos (by omega)];exact zId hn fun v hv=>h v (List.mem_cons_of_mem _ hv)
theorem zNd {nn:Nat} {n:Int} (hn:(nn:Int)≤n) {vs:List Vn} (h:∀v∈vs,v.n≤nn):zAc n vs=zAc nn vs:=by
 unfold zAc;rw [zId hn h];have h2:∀v∈zBx nn vs,v.n≤nn:=fun v hv=>h v ((zE4 _ vs).subset hv)
 cases hs:zBx (nn:Int) vs with
 | nil=>rfl
 | cons x l=>
  rw [hs] at h2;have hx:=h2 x (List.mem_cons_self ..);rw [cutV,cutV];by_cases hg:x.gone=true
  ·rw [if_pos ⟨hg,by omega⟩,if_pos ⟨hg,by omega⟩]
  ·rw [if_neg (fun h=>hg h.1),if_neg (fun h=>hg h.1)]
theorem zKT {nn:Nat} {n:Int} (hn:(nn:Int)≤n):∀{V:List (ByteArray×List Vn)},(∀e∈V,∀v∈e.2,v.n≤nn)→vacV n V=vacV nn V
 | [],_=>rfl
 | e::V,h=>by
  rw [vacV,vacV,zNd hn (h e (List.mem_cons_self ..)),zKT hn fun x hx=>h x (List.mem_cons_of_mem _ hx)]
def zBc (V:List (ByteArray×List Vn)) (f:ByteArray→Bool) (n:Int):List Rw:=V.filterMap fun e=>if (atV e.2 n).2&&f e.1 then some ⟨e.1,(atV e.2 n).1⟩ else none
theorem zPu {V:List (ByteArray×List Vn)} (hn:(V.map (·.1)).Nodup) {f:ByteArray→Bool} {n:Int} {r:Rw}:r∈zBc V f n↔zAU V r.key n=(r.val,true)∧f r.key=true:=by
 unfold zBc;rw [List.mem_filterMap];constructor
 ·rintro ⟨e,he,h⟩;by_cases hc:(atV e.2 n).2&&f e.1
  ·rw [if_pos hc] at h;injection h with h
   subst h;rw [Bool.and_eq_true] at hc;refine ⟨?_,hc.2⟩;unfold zAU;rw [zHU hn he];show atV e.2 n=_;rw [←hc.1]
  ·rw [if_neg hc] at h;cases h
 ·rintro ⟨h1,h2⟩;unfold zAU at h1;cases hg:getV V r.key with
  | none=>rw [hg] at h1;exact absurd (show atV [] n=(r.val,true) from h1) (by unfold atV;simp)
  | some vs=>
   rw [hg] at h1;have h1:atV vs n=(r.val,true):=h1;refine ⟨_,zHv hg,?_⟩;show (if (atV vs n).2&&f r.key then some (⟨r.key,(atV vs n).1⟩:Rw) else none)=some r;rw [h1,h2];rfl
theorem zEQ (f:ByteArray→Bool) (n:Int):∀V:List (ByteArray×List Vn),((zBc V f n).map Rw.key).Sublist (V.map (·.1))
 | []=>.slnil
 | e::V=>by
  unfold zBc;rw [List.filterMap_cons];by_cases hc:((atV e.2 n).2&&f e.1)=true
  ·rw [if_pos hc];exact (zEQ f n V).cons_cons _
  ·rw [if_neg hc];exact (zEQ f n V).cons _
theorem zJY (n:Int):∀V:List (ByteArray×List Vn),cntV (vacV n V)≤cntV V
 | []=>Nat.le_refl _
 | e::V=>by
  rw [vacV];by_cases h:zAc n e.2=[]
  ·rw [if_pos h];exact Nat.le_trans (zJY n V) (show cntV V≤e.2.length+cntV V by omega)
  ·rw [if_neg h];show (zAc n e.2).length+cntV (vacV n V)≤e.2.length+cntV V;have:=zJY n V;have:=(zEa n e.2).length_le;omega
noncomputable def zBm (V:List (ByteArray×List Vn)) (f:ByteArray→Bool) (n:Int):List Rw:=(zBc V f n).mergeSort fun a b=>!slt b.key a.key
theorem zEh (V:List (ByteArray×List Vn)) (f:ByteArray→Bool) (n:Int):(zBm V f n).Perm (zBc V f n):=List.mergeSort_perm _ _
theorem zGi {V:List (ByteArray×List Vn)} (hn:(V.map (·.1)).Nodup) (f:ByteArray→Bool) (n:Int):RUps (zBm V f n):=by
 have h1:(zBm V f n).Pairwise fun a b=>(!slt b.key a.key)=true:=by
  refine List.pairwise_mergeSort (le:=fun a b:Rw=>!slt b.key a.key) (fun a b c h1 h2=>?_) (fun a b=>?_) _
  ·simp only [Bool.not_eq_eq_eq_not,Bool.not_true] at h1 h2 ⊢;exact zDI h2 h1
  ·rcases zCY a.key b.key with h | h | h
   ·simp [zBR h]
   ·simp [h,zBw]
   ·simp [zBR h]
 have h2:((zBm V f n).map Rw.key).Nodup:=((zEh V f n).map Rw.key).nodup_iff.2 (hn.sublist (zEQ f n V));rw [List.Nodup,List.pairwise_map] at h2;refine (h1.and h2).imp fun {a b} h=>?_
 have h3:slt b.key a.key=false:=by simpa using h.1
 exact zDp h3 (fun e=>h.2 e.symm)
theorem zQ1 {V:List (ByteArray×List Vn)} (hn:(V.map (·.1)).Nodup) {f:ByteArray→Bool} {n:Int} {r:Rw}:r∈zBm V f n↔zAU V r.key n=(r.val,true)∧f r.key=true:=
 (zEh V f n).mem_iff.trans (zPu hn)
theorem zS1 {V:List (ByteArray×List Vn)} (hn:(V.map (·.1)).Nodup) {f:ByteArray→Bool} {n:Int} {out:List Rw} (hp:out.Perm (zBc V f n)) (hu:out.Pairwise fun a b=>slt b.key a.key=false):out=zBm V f n:=by
 have h2:(out.map Rw.key).Nodup:=(hp.map Rw.key).nodup_iff.2 (hn.sublist (zEQ f n V));rw [List.Nodup,List.pairwise_map] at h2;have h3:RUps out:=(hu.and h2).imp fun {a b} h=>zDp h.1 (fun e=>h.2 e.symm)
 exact h3.ext (zGi hn f n) fun r=>by rw [hp.mem_iff,(zEh V f n).mem_iff]
theorem zP1 {V:List (ByteArray×List Vn)} (hn:(V.map (·.1)).Nodup) {f:ByteArray→Bool} {n:Int} {l:List Rw} (hl:RUps l) (h:∀k,zAU V k n=valR l k):zBm V f n=l.filter (fun r=>f r.key):=by
 refine (zGi hn f n).ext (hl.filter _) fun r=>?_
 rw [zQ1 hn,h,zLg hl,List.mem_filter]
theorem Past.vac {nn frm:Nat} {V:List (ByteArray×List Vn)} {past:List (List Rw)} (h:Past nn frm V past) (n:Int) (frm':Nat) (hf:(frm':Int)=max (frm:Int) (min n nn)):Past nn frm' (vacV n V) past where
 inv:=h.inv.vac n
 len:=h.len
 ups:=h.ups
 le:=by have:=h.le;omega
 reads:=fun m hm hf2 k=>by
  rw [←h.reads m hm (by omega) k];by_cases hn:(nn:Int)≤n
  ·rw [zKT hn h.inv.le,zKU h.inv k (by omega)]
  ·exact zKU h.inv k (by omega)
theorem Past.read {nn frm:Nat} {V:List (ByteArray×List Vn)} {past:List (List Rw)} (h:Past nn frm V past) {m:Int} (hm:(frm:Int)≤m) {j:Nat} (hj:(j:Int)=min m nn) (hl:j<past.length) (k:ByteArray):zAU V k m=valR past[j] k:=by
 have hle:=h.le;by_cases hn:(nn:Int)≤m
 ·have e:j=nn:=by omega
  subst e;rw [zJK h.inv k hn];exact h.reads j hl h.le k
 ·have e:m=(j:Int):=by omega
  rw [e];exact h.reads j hl (by omega) k
theorem Past.scan {nn frm:Nat} {V:List (ByteArray×List Vn)} {past:List (List Rw)} (h:Past nn frm V past) {m:Int} (hm:(frm:Int)≤m) {j:Nat} (hj:(j:Int)=min m nn) (hl:j<past.length) (f:ByteArray→Bool):zBm V f m=past[j].filter (fun r=>f r.key):=
 zP1 h.inv.keys (h.ups _ (List.getElem_mem hl)) (h.read hm hj hl)
theorem zM3 (n:Nat) (c:Ch):∀V:List (ByteArray×List Vn),(putV n V c).length≤V.length+1∧cntV (putV n V c)=cntV V+1
 | []=>⟨by simp [putV],rfl⟩
 | e::V=>by
  have ih:=zM3 n c V;rw [putV];by_cases h:e.1=c.key
  ·rw [if_pos h];refine ⟨by simp,?_⟩;show (e.2++[_]).length+cntV V=e.2.length+cntV V+1;rw [List.length_append];simp;omega
  ·rw [if_neg h];refine ⟨by simp;exact ih.1,?_⟩;show e.2.length+cntV (putV n V c)=e.2.length+cntV V+1;omega
theorem zPC (nn:Nat) (C:List Ch) (V:List (ByteArray×List Vn)):(zBF nn C V).length≤V.length+C.length∧cntV (zBF nn C V)≤cntV V+C.length:=by
 unfold zBF;by_cases hd:zBN C=0
 ·rw [if_pos hd];clear hd
  induction C generalizing V with
  | nil=>exact ⟨Nat.le_refl _,Nat.le_refl _⟩
  | cons c C ih=>
   rw [List.foldl_cons,List.length_cons];have h1:=ih (putV (nn+1) V c);have h2:=zM3 (nn+1) c V;omega
 ·rw [if_neg hd];omega
theorem zOY {e:ByteArray×List Vn}:∀{V:List (ByteArray×List Vn)},e∈V→e.2.length≤cntV V
 | x::V,h=>by
  rcases List.mem_cons.1 h with rfl | h
  ·exact Nat.le_add_right _ _
  ·exact Nat.le_trans (zOY h) (Nat.le_add_left _ _)
theorem zS7 (l:List Rw):cntV (newV l)=l.length:=by
 induction l with
 | nil=>rfl
 | cons r l ih=>
  show 1+cntV (newV l)=l.length+1;omega
theorem zJ0 (c:Ch):∀(l:List Rw) (laid:Bool),(appF c laid l).length≤l.length+1∧(laid=true→(appF c laid l).length≤l.length)
 | [],laid=>by cases laid<;>simp [appF]
 | x::l,laid=>by
  have i1:=zJ0 c l true;have i2:=zJ0 c l laid;have h3:=i1.2 rfl;rw [appF];by_cases h1:laid=false∧slt x.key c.key=false
  ·rw [if_pos h1,h1.1];refine ⟨?_,fun h=>by cases h⟩;split<;>simp<;>omega
  ·rw [if_neg h1];split
   ·exact ⟨by simp;omega,fun h=>by have:=i2.2 h;simp;omega⟩
   ·exact ⟨by simp;omega,fun h=>by have:=i2.2 h;simp;omega⟩
theorem zHu:∀(C:List Ch) (l:List Rw),(C.foldl appR l).length≤l.length+C.length
 | [],l=>Nat.le_refl _
 | c::C,l=>by
  have h1:=zHu C (appR l c);have h2:=(zJ0 c l c.gone).1;rw [List.foldl_cons,List.length_cons];unfold appR at h1 ⊢;omega
theorem zQx (V:List (ByteArray×List Vn)) (f:ByteArray→Bool) (n:Int):(zBm V f n).length≤V.length:=by
 rw [(zEh V f n).length_eq];exact List.length_filterMap_le _ _
end Go.Proofs.YtagcmjmcjpjihaaGreatDoor
namespace Go.Proofs.YtagcmjmcjpjihaaGreatDoor
open Go.RowKit
theorem zCO {w:World} {l:List Rw} {b off i:Nat} (h:ValsAt w (some ⟨b,off,none⟩) (l.flatMap rwC)) (hi:i<l.length):w.cell? ⟨b,off+i*2,none⟩=some (.string l[i].key)∧w.cell? ⟨b,off+i*2+1,none⟩=some (.string l[i].val):=by
 have g0:=zAj rwC 2 (fun _=>rfl) l i hi 0 (by omega);have g1:=zAj rwC 2 (fun _=>rfl) l i hi 1 (by omega);exact ⟨ValsAt.get h g0,by rw [Nat.add_assoc];exact ValsAt.get h g1⟩
theorem zDT {w:World} {l:List Rw} {a:Option Addr} {i:Nat} (h:ValsAt w a (l.flatMap rwC)) (hi:i<l.length):∃b off,a=some ⟨b,off,none⟩:=
 ValsAt.some h (zAj rwC 2 (fun _=>rfl) l i hi 0 (by omega))
theorem zSa {l:List Rw} {k:ByteArray} {i:Nat} (hi:i<l.length) (h:l[i].key≠k):valR (l.drop i) k=valR (l.drop (i+1)) k:=by
 rw [List.drop_eq_getElem_cons hi];unfold valR;rw [List.find?_cons_of_neg (by rw [decide_eq_true_iff];exact h)]
theorem zRe {l:List Rw} {k:ByteArray} {i:Nat} (hi:i<l.length) (h:l[i].key=k):valR (l.drop i) k=(l[i].val,true):=by
 rw [List.drop_eq_getElem_cons hi];unfold valR;rw [List.find?_cons_of_pos (p:=fun r:Rw=>decide (r.key=k)) (decide_eq_true h)]
theorem zKY (a:Option Addr) (n c:Nat) (l:List Rw) (k:ByteArray) (w:World) (hl:l.length=n) (hn:n≤100000) (hA:ValsAt w a (l.flatMap rwC)) :
 Calls Tryz.prog 46 #[.slice a n c,.string k] w fun e w'=>e=.returned (.tuple #[.string (valR l k).1,.bool (valR l k).2])∧Ext w w':=by
 have hO:Own (fun _=>False) w w [.imm fun w=>ValsAt w a (l.flatMap rwC)]:=Own.base w _ fun _ hw'=>zDb hA hw'
 (replace hf:=fa_ hO);go_enter Tryz.func46,Tryz.ntmps46;go_wp2_with (refine sq_ ?_;clear hO hf;intro w9 hO hf);go_loopw [6] (fun v wr=>∃i:Nat,v=.int .i64 i∧i≤n∧Hid (valR (l.drop i) k=valR l k)∧Own (fun _=>False) w wr [.imm fun w=>ValsAt w a (l.flatMap rwC)]) (fun v _=>n-(intOf v).toNat)
 case atStart=>exact ⟨0,rfl,by omega,Lib.hid rfl,hO⟩
 case round=>
  clear hO;obtain ⟨i,rfl,hi,HV,hO⟩:=hrel;rename World=>w0
  (replace hf:=fa_ hO);by_cases hlt:i<n
  ·have hi2:i<l.length:=by omega
   obtain ⟨b,off,rfl⟩:=zDT (Own.immOf (φ:=fun w=>ValsAt w a (l.flatMap rwC)) hO pk_) hi2;obtain ⟨c0,c1⟩:=zCO (Own.immOf (φ:=fun w=>ValsAt w (some ⟨b,off,none⟩) (l.flatMap rwC)) hO pk_) hi2;have HG:=Lib.hid (fun h:l[i].key≠k=>zSa hi2 h);have HH:=Lib.hid (fun h:l[i].key=k=>zRe hi2 h);generalize l[i]=x at *;by_cases hk:x.key=k
   ·have hk2:x.key.toList=k.toList:=by rw [hk]
    have hk3:k.toList=x.key.toList:=hk2.symm;have e1:=Lib.hid (HV.out.symm.trans (HH.out hk));clear HV HG HH;go_wp2_with (refine sq_ ?_;clear hO;(try clear hf);intro w9 hO hf);all_goals try (exfalso;simp_all;done)
    go_ret2;rw [e1.out];exact ⟨rfl,hO.toExt⟩
   ·have hk2:¬x.key.toList=k.toList:=fun e=>hk (zBH e)
    have hk3:¬k.toList=x.key.toList:=fun e=>hk2 e.symm
    have e1:=Lib.hid ((HG.out hk).symm.trans HV.out);clear HV HG HH hk;go_wp2_with (refine sq_ ?_;clear hO;(try clear hf);intro w9 hO hf);all_goals first|(exfalso;simp_all;done) | exact ⟨⟨i+1,by go_num,by omega,e1,hO⟩,by simp [intOf];omega⟩
  ·have e1:=HV.out;rw [List.drop_of_length_le (by omega)] at e1;have e2:=Lib.hid (e1.symm.trans (show valR [] k=(⟨#[]⟩,false) from rfl));clear e1 HV;go_wp2_with (refine sq_ ?_;clear hO;(try clear hf);intro w9 hO hf);go_ret2;rw [e2.out];exact ⟨rfl,hO.toExt⟩
theorem zCA (a b:Option Addr) (n c d:Nat) (l:List Rw) (w:World) (hl:l.length=n) (hn:n≤100000) (hA:ValsAt w a (l.flatMap rwC)) (hB:ValsAt w b (l.flatMap rwC)) :
 Calls Tryz.prog 36 #[.slice a n c,.slice b n d] w fun e w'=>e=.returned (.bool true)∧Ext w w':=by
 have hO:Own (fun _=>False) w w [.imm fun w=>ValsAt w a (l.flatMap rwC)∧ValsAt w b (l.flatMap rwC)]:=Own.base w _ fun _ hw'=>⟨zDb hA hw',zDb hB hw'⟩
 (replace hf:=fa_ hO);go_enter Tryz.func36,Tryz.ntmps36;go_wp2_with (refine sq_ ?_;clear hO hf;intro w9 hO hf);go_loopw [5] (fun v wr=>∃k:Nat,v=.int .i64 k∧k≤n∧Own (fun _=>False) w wr [.imm fun w=>ValsAt w a (l.flatMap rwC)∧ValsAt w b (l.flatMap rwC)]) (fun v _=>n-(intOf v).toNat)
 case atStart=>exact ⟨0,rfl,by omega,hO⟩
 case round=>
  clear hO;obtain ⟨k,rfl,hk,hO⟩:=hrel;rename World=>w0
  (replace hf:=fa_ hO);by_cases hlt:k<n
  ·have hk2:k<l.length:=by omega
   obtain ⟨b1,o1,rfl⟩:=zDT (a:=a) hf.1 hk2;obtain ⟨b2,o2,rfl⟩:=zDT (a:=b) hf.2 hk2;have hca:=fun w (h:ValsAt w (some ⟨b1,o1,none⟩) (l.flatMap rwC)∧ValsAt w (some ⟨b2,o2,none⟩) (l.flatMap rwC))=>zCO h.1 hk2
   have hcb:=fun w (h:ValsAt w (some ⟨b1,o1,none⟩) (l.flatMap rwC)∧ValsAt w (some ⟨b2,o2,none⟩) (l.flatMap rwC))=>zCO h.2 hk2
   generalize l[k]=x at *;go_wp2_with (refine sq_ ?_;clear hO;(try clear hf);intro w9 hO hf);(refine rg_ hO ((0,0)::(0,1)::(0,2)::(1,3)::(0,4)::(0,5)::(0,6)::(1,7)::(0,8)::[]) ?_;clear hO;intro w9 hO;replace hf:=fa_ hO;(repeat (first|(apply zAG _ rfl rfl rfl;focus (intro w8 K8 hK8;(repeat (first | go_skip | go_guarded | go_step));exact hK8))|(apply zAJ _ rfl rfl rfl;focus (intro w8 hx8 K8 hK8;have hO:=hO.ext hx8;(replace hf:=fa_ hO);obtain ⟨c0,c1⟩:=hca _ hf;obtain ⟨d0,d1⟩:=hcb _ hf;(repeat (first | go_skip | go_guarded | go_step));exact hK8))|(apply zAL _ rfl;(focus (intro w8 hx8 K8 hK8;have hO:=hO.ext hx8;(replace hf:=fa_ hO);(repeat (first | go_skip | go_guarded | go_step | fail));(first | exact xt_ | exact hK8 _ xt_)));(focus (exact rfl));intro w8 hx8;replace hO:=hO.ext hx8;clear hx8;(replace hf:=fa_ hO)))));refine zAA ?_;go_wp2_with (refine sq_ ?_;clear hO hf;intro w9 hO hf);exact ⟨⟨k+1,by go_num,by omega,hO⟩,by simp [intOf];omega⟩
  ·go_wp2_with (refine sq_ ?_;clear hO;(try clear hf);intro w9 hO hf);go_ret;exact ⟨rfl,hO.toExt⟩
def inR (lo hi:ByteArray) (l:List Rw):List Rw:=l.filter fun r=>hasB lo hi r.key
theorem zSm {lo hi:ByteArray} {l:List Rw} {i:Nat} (h:i<l.length) (hh:hasB lo hi l[i].key=true):inR lo hi (l.take (i+1))=inR lo hi (l.take i)++[l[i]]:=by
 unfold inR;rw [List.take_succ_eq_append_getElem h,List.filter_append,List.filter_cons,if_pos hh];rfl
theorem zTd {lo hi:ByteArray} {l:List Rw} {i:Nat} (h:i<l.length) (hh:hasB lo hi l[i].key=false):inR lo hi (l.take (i+1))=inR lo hi (l.take i):=by
 unfold inR;rw [List.take_succ_eq_append_getElem h,List.filter_append,List.filter_cons,if_neg (by simp [hh])];simp
theorem zRA (O:List Rw) (x:Rw):(O++[x]).flatMap rwC=O.flatMap rwC++[.string x.key,.string x.val]:=by rw [List.flatMap_append];rfl
theorem zSB (lo hi k:ByteArray) (w:World) :
 Calls Tryz.prog 128 #[.agg #[.string lo,.string hi],.string k] w fun e w'=>e=.returned (.bool (hasB lo hi k))∧Ext w w':=by
 have hO:=Own.start w (fun _=>False);go_enter Tryz.func128,Tryz.ntmps128;go_wp2_with (refine sq_ ?_;clear hO;(try clear hf);intro w9 hO hf);all_goals (go_ret;refine ⟨?_,hO.toExt⟩;have hb:=zTY lo k;unfold hasB zGK;cases hs:slt k lo<;>rw [hs] at hb<;>unfold slt at hs ⊢<;>simp_all)
theorem Tryz.infoRw2:(Tryz.prog.info? 177).map (fun i=>(i.zero,i.size,i.bytes))=some (some (.agg #[.string ⟨#[]⟩,.string ⟨#[]⟩]),2,32):=by kernel_rfl
theorem zSo (a:Option Addr) (n c:Nat) (l:List Rw) (lo hi:ByteArray) (hl:l.length=n) (hn:n≤100000) {φ:World→Prop} (hφ:∀w,φ w→ValsAt w a (l.flatMap rwC)) :
 Does Tryz.prog 51 #[.slice a n c,.agg #[.string lo,.string hi]] [.imm φ] (fun p:Option Addr×Nat=>(.slice p.1 (inR lo hi l).length p.2,[Row2 177 2 p.1 (inR lo hi l).length p.2 ((inR lo hi l).flatMap rwC),.imm φ])):=by
 obtain ⟨iR,hiR,hzR,hsR,hbR⟩:=info_parts Tryz.infoRw2;intro S W w L0 hO;simp only [CA] at hO;(replace hf:=fa_ hO);go_enter Tryz.func51,Tryz.ntmps51;go_wp2_with (refine sq_ ?_;clear hO hf;intro w9 hO hf);obtain ⟨g,hg9⟩:=(hO.pick (r:=Var _ [.string lo,.string hi] 98) pk_).named;rw [←hg9];rw [←hg9] at hO;clear hg9;have hO9:=hO.nil 177 2;clear hO hf;go_loopw [5,6] (fun v5 v6 wr=>∃(i m:Nat) (oa:Option Addr) (oc:Nat),v5=.slice oa m oc∧v6=.int .i64 i∧i≤n∧m≤i∧Hid (m=(inR lo hi (l.take i)).length)∧Own S W wr ([Row2 177 2 oa m oc ((inR lo hi (l.take i)).flatMap rwC),Var g [.string lo,.string hi] 98,.imm φ]++L0)) (fun _ v _=>n-(intOf v).toNat)
 case atStart=>exact ⟨0,0,none,0,rfl,rfl,by omega,by omega,Lib.hid rfl,by rw [show (inR lo hi (l.take 0)).flatMap rwC=[] from rfl];(try simp only [CA]);exact hO9.cut sb_⟩
 case round=>
  clear hO9;obtain ⟨i,m,oa,oc,rfl,rfl,hi2,hmi,HM,hO⟩:=hrel;rename World=>w0
  simp only [List.cons_append,List.nil_append] at hO;(replace hf:=fa_ hO);by_cases hlt:i<n
  ·have hil:i<l.length:=by omega
   obtain ⟨b,off,rfl⟩:=zDT (hφ _ (Own.immOf (φ:=φ) hO pk_)) hil;have hcell:=fun w (h:φ w)=>zCO (hφ w h) hil
   have HY:=Lib.hid (fun h=>zSm (lo:=lo) (hi:=hi) hil h);have HN:=Lib.hid (fun h=>zTd (lo:=lo) (hi:=hi) hil h);have HH:=fun w=>zSB lo hi l[i].key w
   obtain ⟨hb,HB⟩:∃hb,Hid (hasB lo hi l[i].key=hb):=⟨_,Lib.hid rfl⟩
   rw [HB.out] at HH;generalize l[i]=x at *;cases hb with
   | false=>
    have e1:=Lib.hid (HN.out HB.out);clear HY HN;go_wp2_with (refine sq_ ?_;clear hO;(try clear hf);intro w9 hO hf);(refine rg_ hO ((1,0)::(0,1)::(0,2)::(0,3)::(0,4)::(1,5)::(3,6)::(0,7)::[]) ?_;clear hO;intro w9 hO;replace hf:=fa_ hO;(repeat (first|(apply zAG _ rfl rfl rfl;focus (intro w8 K8 hK8;(repeat (first | go_skip | go_guarded | go_step));exact hK8))|(apply zAJ _ rfl rfl rfl;focus (intro w8 hx8 K8 hK8;have hO:=hO.ext hx8;(replace hf:=fa_ hO);obtain ⟨c0,c1⟩:=hcell _ (Own.immOf (φ:=φ) hO pk_);(repeat (first | go_skip | go_guarded | go_step));exact hK8))|(apply zAL _ rfl;(focus (intro w8 hx8 K8 hK8;have hO:=hO.ext hx8;(replace hf:=fa_ hO);(repeat (first | go_skip | go_guarded | go_step | (go_at_call 128;(with_reducible refine Calls.mono (HH _) ?_;rintro e7 w7 ⟨rfl,hx7⟩;dsimp only))));(first | exact xt_ | exact hK8 _ xt_)));(focus (exact rfl));intro w8 hx8;replace hO:=hO.ext hx8;clear hx8;(replace hf:=fa_ hO)))));refine zAA ?_;go_wp2_with (refine sq_ ?_;clear hO hf;intro w9 hO hf);refine ⟨⟨i+1,m,oa,oc,rfl,by go_num,by omega,by omega,Lib.hid (by rw [e1.out];exact HM.out),?_⟩,by simp [intOf];omega⟩;rw [e1.out];(try simp only [CA]);exact hO.cut sb_
   | true=>
    have e1:=Lib.hid (HY.out HB.out);clear HY HN;go_wp2_with (refine sq_ ?_;clear hO;(try clear hf);intro w9 hO hf);(refine rg_ hO ((1,0)::(0,1)::(0,2)::(0,3)::(0,4)::(1,5)::(3,6)::(0,7)::[]) ?_;clear hO;intro w9 hO;replace hf:=fa_ hO;(repeat (first|(apply zAG _ rfl rfl rfl;focus (intro w8 K8 hK8;(repeat (first | go_skip | go_guarded | go_step));exact hK8))|(apply zAJ _ rfl rfl rfl;focus (intro w8 hx8 K8 hK8;have hO:=hO.ext hx8;(replace hf:=fa_ hO);obtain ⟨c0,c1⟩:=hcell _ (Own.immOf (φ:=φ) hO pk_);(repeat (first | go_skip | go_guarded | go_step));exact hK8))|(apply zAL _ rfl;(focus (intro w8 hx8 K8 hK8;have hO:=hO.ext hx8;(replace hf:=fa_ hO);(repeat (first | go_skip | go_guarded | go_step | (go_at_call 128;(with_reducible refine Calls.mono (HH _) ?_;rintro e7 w7 ⟨rfl,hx7⟩;dsimp only))));(first | exact xt_ | exact hK8 _ xt_)));(focus (exact rfl));intro w8 hx8;replace hO:=hO.ext hx8;clear hx8;(replace hf:=fa_ hO)))));refine zAA ?_;obtain ⟨c0,c1⟩:=hcell _ (Own.immOf (φ:=φ) hO pk_);go_wp2_with (first|(at_builtin;(refine zAH (e:=177) (size:=2) (xs:=(inR lo hi (l.take i)).flatMap rwC) (news:=[.string x.key,.string x.val]) hO pk_ pk_ rfl (.tmp 22) (.tmp 27) 32 rfl iR _ 32 Tryz.underlying32 hiR hzR hsR hbR rfl (by omega) rfl _ _ rfl (by rfl) (by repeat (first | exact zAp | refine zAf rfl ?_)) (by unfold maxLen;omega) (by omega) ?_;clear hO;intro ka9 kc9 w9 hO;(replace hf:=fa_ hO)))|(refine sq_ ?_;clear hO hf;intro w9 hO hf));refine ⟨⟨i+1,m+1,ka9,kc9,rfl,by go_num,by omega,by omega,Lib.hid (by rw [e1.out,List.length_append,←HM.out];rfl),?_⟩,by simp [intOf];omega⟩;rw [e1.out,zRA];(try simp only [CA]);exact hO.cut sb_
  ·obtain rfl:i=n:=by omega
   have e1:l.take i=l:=List.take_of_length_le (by omega);rw [e1] at hO HM;rw [HM.out] at hO;go_wp2_with (refine sq_ ?_;clear hO;(try clear hf);intro w9 hO hf);go_ret;refine ⟨(oa,oc),by rw [HM.out];rfl,?_⟩;(try simp only [CA]);exact hO.cut sb_
def insR (l:List Rw) (i:Nat) (x:Rw):List Rw:=l.take i++x::l.drop i
theorem zFM (l:List Rw) (i:Nat) (x:Rw) (hi:i≤l.length):(insR l i x).length=l.length+1:=by
 unfold insR;simp only [List.length_append,List.length_take,List.length_cons,List.length_drop];omega
theorem zEe (l:List Rw):(l.flatMap rwC).length=l.length*2:=zHZ (f:=rwC) (k:=2) (fun _=>rfl) l
theorem zEy (x:Rw):∀u∈rwC x,u.oneCell'=true:=fun u hu=>by
 simp only [rwC,List.mem_cons,List.not_mem_nil,or_false] at hu;rcases hu with rfl | rfl<;>rfl
theorem zJZ (l:List Rw):∀u∈l.flatMap rwC,u.oneCell'=true:=fun u hu=>by
 obtain ⟨c,_,h⟩:=List.mem_flatMap.1 hu;exact zEy c u h
theorem zFm:∀(l:List Rw) (i:Nat),(l.flatMap rwC).take (i*2)=(l.take i).flatMap rwC
 | [],i=>by simp
 | x::l,0=>by simp
 | x::l,i+1=>by
  rw [List.flatMap_cons,List.take_succ_cons,List.flatMap_cons,←zFm l i,show (i+1)*2=i*2+2 from by omega];rfl
theorem zH6:∀(l:List Rw) (i:Nat),(l.flatMap rwC).drop (i*2)=(l.drop i).flatMap rwC
 | [],i=>by simp
 | x::l,0=>by simp
 | x::l,i+1=>by
  rw [List.flatMap_cons,List.drop_succ_cons,←zH6 l i,show (i+1)*2=i*2+2 from by omega];rfl
theorem zF0 (l:List Rw) (i:Nat) (x:Rw):(insR l i x).flatMap rwC=(l.flatMap rwC).take (i*2)++(rwC x++(l.flatMap rwC).drop (i*2)):=by
 unfold insR;rw [List.flatMap_append,List.flatMap_cons,zFm,zH6]
theorem zRU (l:List Rw) (x:Rw):(insR l l.length x).flatMap rwC=l.flatMap rwC++rwC x:=by
 rw [zF0,←zEe,List.take_length,List.drop_length,List.append_nil]
theorem zNv (a:Option Addr) (n c g vc:Nat) (l:List Rw) (x:Rw) (hl:l.length=n) (hn:n≤100000) (hnc:n≤c) :
 Does Tryz.prog 136 #[.slice a n c,.int .i64 n,.slice (some ⟨g,0,none⟩) 1 vc] [Row2 177 2 a n c (l.flatMap rwC),Var g (rwC x) 177]
  (fun p:Option Addr×Nat=>(.slice p.1 (n+1) p.2,[Row2 177 2 p.1 (n+1) p.2 ((insR l n x).flatMap rwC)])):=by
 obtain ⟨iR,hiR,hzR,hsR,hbR⟩:=info_parts Tryz.infoRw2;have hfin:(insR l n x).flatMap rwC=l.flatMap rwC++(rwC x):=by rw [←hl];exact zRU l x
 rw [hfin];clear hfin;intro S W w L0 hO;simp only [CA] at hO;(replace hf:=fa_ hO);rcases Nat.eq_or_lt_of_le hnc with rfl | hlt
 ·go_enter Tryz.func136,Tryz.ntmps136;go_wp2_with (first|(at_builtin;(refine zAH hO pk_ pk_ rfl (.tmp 23) (.tmp 24) 32 rfl iR _ 32 Tryz.underlying32 hiR hzR hsR hbR rfl (by omega) rfl _ _ rfl (by rfl) (zEy _) (by unfold maxLen;omega) (by omega) ?_;clear hO;intro ka9 kc9 w9 hO;(replace hf:=fa_ hO)))|(refine sq_ ?_;clear hO;(try clear hf);intro w9 hO hf));all_goals (go_ret;refine ⟨(ka9,kc9),rfl,?_⟩;exact hO.give tk_ kp_)
 ·have hne:¬c=n:=by omega
  go_enter Tryz.func136,Tryz.ntmps136;go_wp2_with (first|(at_builtin;(refine zAH hO pk_ pk_ rfl (.tmp 23) (.tmp 24) 32 rfl iR _ 32 Tryz.underlying32 hiR hzR hsR hbR rfl (by omega) rfl _ _ rfl (by rfl) (zEy _) (by unfold maxLen;omega) (by omega) ?_;clear hO;intro ka9 kc9 w9 hO;(replace hf:=fa_ hO)))|(refine sq_ ?_;clear hO;(try clear hf);intro w9 hO hf));all_goals (go_ret;refine ⟨(ka9,kc9),rfl,?_⟩;exact hO.give tk_ kp_)
theorem zM5 (g0 n c g vc i:Nat) (l:List Rw) (x:Rw) (hl:l.length=n) (hn:n≤100000) (hi:i<n) (hnc:n≤c) (hc:c≤n) :
 Does Tryz.prog 136 #[.slice (some ⟨g0,0,none⟩) n c,.int .i64 i,.slice (some ⟨g,0,none⟩) 1 vc] [Row2 177 2 (some ⟨g0,0,none⟩) n c (l.flatMap rwC),Var g (rwC x) 177]
  (fun p:Option Addr×Nat=>(.slice p.1 (n+1) p.2,[Row2 177 2 p.1 (n+1) p.2 ((insR l i x).flatMap rwC)])):=by
 obtain rfl:c=n:=by omega
 obtain ⟨iR,hiR,hzR,hsR,hbR⟩:=info_parts Tryz.infoRw2;rw [zF0];have hcl:=zEe l;generalize hxs:l.flatMap rwC=xs at *;have hxl:xs.length=c*2:=by omega
 have HO1:=Lib.hid (hxs ▸ zJZ l);clear hcl hl;intro S W w L0 hO;simp only [CA] at hO;(replace hf:=fa_ hO);have hci:¬c=i:=by omega
 have hci2:¬(c:Int)=i:=by omega
 have hik:i+(c+1-i)=c+1:=by omega
 have HIK:=Lib.hid hik;clear hik;have hv:Value.int .i64 ((c:Int)+1-i)=.int .i64 ((c+1-i:Nat):Int):=by congr 1;omega
 have HV:=Lib.hid hv;clear hv;have hsrc:∀j u,(xs.take (i*2))[j]?=some u→w.cell? ⟨g0,0+j,none⟩=some u:=fun j u hj=>by
  rw [List.getElem?_take] at hj;split at hj
  ·exact zBb (g:=g0) (off:=0) hf.1.1 j u hj
  ·cases hj
 have HS:=Lib.hid hsrc;clear hsrc;go_enter Tryz.func136,Tryz.ntmps136;go_upto_region 10 with (first|(at_builtin;(refine zDu hO rfl (.tmp 34) (.tmp 39) 32 3 rfl iR _ 2 32 Tryz.underlying32 .i64 Tryz.underlying3 hiR hzR hsR hbR rfl (by omega) g0 i c rfl (xs.take (i*2)) (by rw [List.length_take];omega) HS.out .i64 (c+1-i) HV.out (by omega) (by omega) (by omega) (by omega) ?_;clear hO;intro kg9 kc9 w9 hO;rw [HIK.out] at hO ⊢;have hkl:=hO.rowLen pk_;rw [List.length_append] at hkl;generalize (Builtin.zeroCells _ (c+1-i)).toList=zs at hO hkl;(replace hf:=fa_ hO)))|(refine sq_ ?_;clear hO hf;intro w9 hO hf))
 go_wp2_with (first|((with_reducible show wpList _ _ _ (Oper.mk _ (.call { callee:=.builtin .copy,args:=_,argTypes:=_ }) _ _ _ _::_) _ _);(refine zA9 hO (g:=kg9) (n:=c+1) (xs:=List.take (i*2) xs++zs) pk_ rfl (.tmp 43) (.tmp 44) 32 32 rfl Tryz.underlying32 (by rw [hiR];simp [hsR]) (i*2) (c+1-i) _ ⟨g,0,none⟩ 1 _ rfl rfl (rwC x) (by rw [show Nat.min 1 (c+1-i)=1 from Nat.min_eq_left (by omega)];rfl) (fun j v hj=>by rw [zBd];exact Var.at (t:=177) (hO.factOf (r:=Var g (rwC x) 177) pk_) j v hj) (by rw [show (rwC x).length=2 from rfl];omega) (zEy x) ?_;clear hO;intro w9 hO;rw [zER (i*2) (by rw [List.length_take];omega) (by rw [List.length_take] at hkl;rw [show (rwC x).length=2 from rfl];omega)] at hO;(replace hf:=fa_ hO)))|(refine sq_ ?_;clear hO hf;intro w9 hO hf));(refine rg_ hO ((0,0)::(0,1)::(0,2)::(0,3)::(0,4)::(0,5)::(0,6)::(0,7)::(5,8)::[]) ?_;clear hO;intro w9 hO;replace hf:=fa_ hO;(refine ss_ hO ?_;clear hO hf;intro w9 hO hf));refine zAE rfl ?_;intro K8 hK8;(refine zA9 hO (g:=kg9) (n:=c+1) (xs:=List.take (i*2) xs++(rwC x)++List.drop (rwC x).length zs) pk_ rfl (.tmp 50) (.tmp 53) 32 32 rfl Tryz.underlying32 (by rw [hiR];simp [hsR]) ((i+1)*2) (c-i) _ ⟨g0,i*2,none⟩ (c-i) _ rfl rfl (xs.drop (i*2)) (by rw [List.length_drop,show Nat.min (c-i) (c-i)=c-i from Nat.min_self _];omega) (fun j v hj=>by rw [zBd];rw [List.getElem?_drop] at hj;have:=zBb (g:=g0) (off:=0) (hO.vals (xs:=xs) (e:=177) pk_) _ v hj;rwa [Nat.zero_add] at this) (by rw [List.length_drop];omega) (fun u hu=>HO1.out u (List.mem_of_mem_drop hu)) ?_;clear hO;intro w9 hO;rw [zER ((i+1)*2) (by rw [List.length_append,List.length_take,show (rwC x).length=2 from rfl];omega) (by rw [List.length_drop,List.length_drop,show (rwC x).length=2 from rfl];rw [List.length_take] at hkl;omega)] at hO;(replace hf:=fa_ hO));go_step;refine hK8 _ _ trivial ?_;clear hK8 K8;refine zAA ?_;go_wp2_with (refine sq_ ?_;clear hO hf;intro w9 hO hf);go_ret;refine ⟨(some ⟨kg9,0,none⟩,kc9),rfl,?_⟩;rw [show List.drop (List.drop (i*2) xs).length (List.drop (rwC x).length zs)=[] from List.drop_of_length_le (by rw [List.length_drop,List.length_drop,show (rwC x).length=2 from rfl];rw [List.length_take] at hkl;omega),List.append_nil,List.append_assoc] at hO;exact hO.give tk_ kp_
theorem zKz (g0 n c g vc i:Nat) (l:List Rw) (x:Rw) (hl:l.length=n) (hn:n≤100000) (hi:i<n) (hnc:n<c) (hcm:c≤9223372036854775807) :
 Does Tryz.prog 136 #[.slice (some ⟨g0,0,none⟩) n c,.int .i64 i,.slice (some ⟨g,0,none⟩) 1 vc] [Row2 177 2 (some ⟨g0,0,none⟩) n c (l.flatMap rwC),Var g (rwC x) 177]
  (fun p:Option Addr×Nat=>(.slice p.1 (n+1) p.2,[Row2 177 2 p.1 (n+1) p.2 ((insR l i x).flatMap rwC)])):=by
 obtain ⟨iR,hiR,hzR,hsR,hbR⟩:=info_parts Tryz.infoRw2;rw [zF0];have hcl:=zEe l;have HO1:=Lib.hid (zJZ l);generalize l.flatMap rwC=xs at *;have hxl:xs.length=n*2:=by omega
 clear hcl hl;intro S W w L0 hO;simp only [List.cons_append,List.nil_append] at hO;obtain ⟨sp,hsp,hO9⟩:=hO.rowWiden 1 (by omega);clear hO;have hO:=hO9;clear hO9;(replace hf:=fa_ hO);have hap:=hO.apart (b:=g) (cs:=(rwC x)) (t:=177) (g:=g0) (n:=n+1) (size:=2) (.there _ (.here _ _)) (.here _ _) (by omega) (by omega);have hni:¬n=i:=by omega
 have hni2:¬(n:Int)=i:=by omega
 have hov:∀lb cb,(callFunc 207 #[.slice (some ⟨g,0,none⟩) 1 vc,.slice (some ⟨g0,(i+1)*2,none⟩) lb cb]).run Tryz.prog w=.ok (.value (.bool false)) w:=fun lb cb=>by
  obtain ⟨h1,h2,⟨k,h3,h4⟩,h5⟩:=hap;rw [run_callFunc_extern Tryz.func207 (by kernel_rfl) (by kernel_rfl) (by kernel_rfl) (e:=Extern.SlicesOverlaps.overlaps #[32,32] #[4]) (by kernel_rfl),
   Lib.run_overlaps_apart w 32 4 177 Tryz.underlying32 2 Tryz.sizeOf177 ⟨g,0,none⟩ ⟨g0,(i+1)*2,none⟩ 1 vc lb cb h1 _ _ _ _ h2 h3 h4 (h5 0) (h5 _)]
  rfl
 clear hap;go_enter Tryz.func136,Tryz.ntmps136;go_upto_region 15 with (first|(simp only [hov])|(refine sq_ ?_;clear hO hf;intro w9 hO hf))
 (refine rg_ hO ((0,0)::(0,1)::(0,2)::(0,3)::(0,4)::(0,5)::(0,6)::(0,7)::(5,8)::[]) ?_;clear hO;intro w9 hO;replace hf:=fa_ hO;(refine ss_ hO ?_;clear hO hf;intro w9 hO hf));refine zAE rfl ?_;intro K8 hK8;(refine zA9 hO (g:=g0) (n:=n+1) (xs:=xs++sp) pk_ rfl (.tmp 73) (.tmp 76) 32 32 rfl Tryz.underlying32 (by rw [hiR];simp [hsR]) ((i+1)*2) (n-i) _ ⟨g0,i*2,none⟩ (n+1-i) _ rfl rfl (xs.drop (i*2)) (by rw [List.length_drop,show Nat.min (n+1-i) (n-i)=n-i from Nat.min_eq_right (by omega)];omega) (fun j v hj=>by rw [zBd];have:=zBb (g:=g0) (off:=0) (hO.vals (xs:=xs++sp) (e:=177) pk_) (i*2+j) v (by rw [List.getElem?_append_left (by have:=(List.getElem?_eq_some_iff.1 hj).1;rw [List.length_drop] at this;omega)];rwa [List.getElem?_drop] at hj);rwa [Nat.zero_add] at this) (by rw [List.length_drop];omega) (fun u hu=>HO1.out u (List.mem_of_mem_drop hu)) ?_;clear hO;intro w9 hO;(replace hf:=fa_ hO));go_step;refine hK8 _ _ trivial ?_;clear hK8 K8;refine zAA ?_;go_upto_region 17 with (first|((with_reducible show wpList _ _ _ (Oper.mk _ (.call { callee:=.builtin .copy,args:=_,argTypes:=_ }) _ _ _ _::_) _ _);(refine zA9 hO (g:=g0) (n:=n+1) pk_ rfl (.tmp 80) (.tmp 81) 32 32 rfl Tryz.underlying32 (by rw [hiR];simp [hsR]) (i*2) (n+1-i) _ ⟨g,0,none⟩ 1 _ rfl rfl (rwC x) (by rw [show Nat.min 1 (n+1-i)=1 from Nat.min_eq_left (by omega)];rfl) (fun j v hj=>by rw [zBd];exact Var.at (t:=177) (hO.factOf (r:=Var g (rwC x) 177) pk_) j v hj) (by rw [show (rwC x).length=2 from rfl];omega) (zEy x) ?_;clear hO;intro w9 hO;rw [show (i+1)*2=i*2+(rwC x).length from by rw [show (rwC x).length=2 from rfl];omega,zGG (i*2) (by omega) hsp] at hO;(replace hf:=fa_ hO)))|(refine sq_ ?_;clear hO hf;intro w9 hO hf))
 simp only [Act.put,List.setIfInBounds_toArray,List.set_cons_succ,List.set_cons_zero];go_wp2_with (refine sq_ ?_;clear hO hf;intro w9 hO hf);go_ret;refine ⟨(some ⟨g0,0,none⟩,c),rfl,?_⟩;exact hO.give tk_ kp_
theorem zEx (a:Option Addr) (n c g vc i:Nat) (l:List Rw) (x:Rw) (hl:l.length=n) (hn:n≤100000) (hi:i≤n) :
 Does Tryz.prog 136 #[.slice a n c,.int .i64 i,.slice (some ⟨g,0,none⟩) 1 vc] [Row2 177 2 a n c (l.flatMap rwC),Var g (rwC x) 177]
  (fun p:Option Addr×Nat=>(.slice p.1 (n+1) p.2,[Row2 177 2 p.1 (n+1) p.2 ((insR l i x).flatMap rwC)])):=by
 intro S W w L0 hO;have hO1:=hO;simp only [List.cons_append,List.nil_append] at hO1;obtain ⟨_,h2,h3⟩:=hO1.rowLen (.here _ _);unfold maxLen at h3;rcases Nat.eq_or_lt_of_le hi with rfl | hlt
 ·exact zNv a i c g vc l x hl hn h2 S W w L0 hO
 ·obtain ⟨g0,rfl,_⟩:=hO1.rowAt (.here _ _) (by omega);by_cases hc:c≤n
  ·exact zM5 g0 n c g vc i l x hl hn hlt h2 hc S W w L0 hO
  ·exact zKz g0 n c g vc i l x hl hn hlt (by omega) h3 S W w L0 hO
theorem zFN {c:Ch} {x:Rw} {l:List Rw} (h:x.key≠c.key):appF c true (x::l)=x::appF c true l:=by rw [appF,if_neg (fun h=>by cases h.1),if_neg h]
theorem zJa {c:Ch} {x:Rw} {l:List Rw} (h:x.key=c.key):appF c true (x::l)=appF c true l:=by rw [appF,if_neg (fun h=>by cases h.1),if_pos h]
theorem zJt {c:Ch} {x:Rw} {l:List Rw} (h:slt x.key c.key=true):appF c false (x::l)=x::appF c false l:=by
 rw [appF,if_neg (fun h2=>by rw [h] at h2;cases h2.2),if_neg (zBr h)]
theorem zJm {c:Ch} {x:Rw} {l:List Rw} (h:slt x.key c.key=false) (h2:x.key=c.key):appF c false (x::l)=⟨c.key,c.val⟩::appF c true l:=by rw [appF,if_pos ⟨rfl,h⟩,if_pos h2]
theorem zJr {c:Ch} {x:Rw} {l:List Rw} (h:slt x.key c.key=false) (h2:x.key≠c.key):appF c false (x::l)=⟨c.key,c.val⟩::x::appF c true l:=by rw [appF,if_pos ⟨rfl,h⟩,if_neg h2]
theorem zPt (l:List Rw) (i:Nat):(l.eraseIdx i).flatMap rwC=(l.flatMap rwC).take (i*2)++(l.flatMap rwC).drop ((i+1)*2):=by
 rw [zFm,zH6,←List.flatMap_append,List.eraseIdx_eq_take_drop_succ]
theorem zJO (xs zs:List Value) (i n:Nat) (hx:xs.length=(n+1)*2) (hi:i≤n) (hz:zs.length=2) :
 (splice (splice xs (i*2) (xs.drop ((i+1)*2))) (n*2) zs).take (n*2)=xs.take (i*2)++xs.drop ((i+1)*2):=by
 have e1:(xs.take (i*2)++xs.drop ((i+1)*2)).length=n*2:=by rw [List.length_append,List.length_take,List.length_drop];omega
 have e2:∀Z,(xs.take (i*2)++(xs.drop ((i+1)*2)++Z)).take (n*2)=xs.take (i*2)++xs.drop ((i+1)*2):=fun Z=>by rw [←List.append_assoc];exact List.take_left' e1
 unfold splice;rw [e2];exact List.take_left' e1
theorem zNG (g n c i:Nat) (l:List Rw) (hl:l.length=n+1) (hn:n≤100000) (hi:i≤n) :
 Does Tryz.prog 135 #[.slice (some ⟨g,0,none⟩) (n+1) c,.int .i64 i,.int .i64 ((i:Int)+1)] [Row2 177 2 (some ⟨g,0,none⟩) (n+1) c (l.flatMap rwC)]
  (fun _:Unit=>(.slice (some ⟨g,0,none⟩) n c,[Row2 177 2 (some ⟨g,0,none⟩) n c ((l.eraseIdx i).flatMap rwC)])):=by
 obtain ⟨iR,hiR,hzR,hsR,hbR⟩:=info_parts Tryz.infoRw2;rw [zPt];have hcl:=zEe l;have HO1:=Lib.hid (zJZ l);generalize l.flatMap rwC=xs at *;have hxl:xs.length=(n+1)*2:=by omega
 clear hcl hl;intro S W w L0 hO;simp only [CA] at hO;obtain ⟨_,hnc,hcm⟩:=hO.rowLen (.here _ _);unfold maxLen at hcm;(replace hf:=fa_ hO);by_cases hc:c=i+1
 ·obtain rfl:n=i:=by omega
  subst hc;go_enter Tryz.func135,Tryz.ntmps135;go_upto_region 5 with ((refine sq_ ?_;clear hO;(try clear hf);intro w9 hO hf))
  (refine rg_ hO ((0,0)::(0,1)::(0,2)::(0,3)::(0,4)::(0,5)::(5,6)::(0,7)::[]) ?_;clear hO;intro w9 hO;replace hf:=fa_ hO;(refine ss_ hO ?_;clear hO hf;intro w9 hO hf));refine zAE rfl ?_;intro K8 hK8;(refine zEp hO pk_ rfl (.tmp 22) (.tmp 25) 32 rfl iR Tryz.underlying32 hiR hsR n 0 0 0 rfl (by simp [go_sem]) [] rfl (fun j v hj=>by simp at hj) (by omega) (fun u hu=>by simp at hu) ?_;clear hO;intro w9 hO;(replace hf:=fa_ hO));go_step;refine hK8 _ _ trivial ?_;clear hK8 K8;(refine ss_ hO ?_;clear hO hf;intro w9 hO hf);refine zAA ?_;go_wp2_with (first|((with_reducible show wpList _ _ _ (Oper.mk _ (.call { callee:=.builtin .clear,args:=_,argTypes:=_ }) _ _ _ _::_) _ _);(refine zE2 hO (g:=g) (n:=n+1) pk_ rfl (.tmp 31) 32 rfl iR _ Tryz.underlying32 hiR hzR (n*2) 1 _ rfl (by omega) [.string ⟨#[]⟩,.string ⟨#[]⟩] (by kernel_rfl) (by simp;omega) (by repeat (first | exact zAp | refine zAf rfl ?_)) ?_;clear hO;intro w9 hO;(replace hf:=fa_ hO)))|(refine sq_ ?_;clear hO hf;intro w9 hO hf));have e:=zJO xs [.string ⟨#[]⟩,.string ⟨#[]⟩] n n hxl (Nat.le_refl _) rfl;rw [List.drop_of_length_le (l:=xs) (i:=(n+1)*2) (by omega)] at e ⊢;go_ret;refine ⟨(),rfl,?_⟩;have hO:=(hO.pick (.here _ _)).rowCut n (by omega);rw [e] at hO;exact hO
 ·go_enter Tryz.func135,Tryz.ntmps135;go_upto_region 5 with ((refine sq_ ?_;clear hO;(try clear hf);intro w9 hO hf))
  (refine rg_ hO ((0,0)::(0,1)::(0,2)::(0,3)::(0,4)::(0,5)::(5,6)::(0,7)::[]) ?_;clear hO;intro w9 hO;replace hf:=fa_ hO;(refine ss_ hO ?_;clear hO hf;intro w9 hO hf));refine zAE rfl ?_;intro K8 hK8;(refine zEp hO pk_ rfl (.tmp 22) (.tmp 25) 32 rfl iR Tryz.underlying32 hiR hsR i (n-i) _ ((i+1)*2) rfl (by rfl) (xs.drop ((i+1)*2)) (by rw [List.length_drop];omega) (fun j v hj=>by rw [List.getElem?_drop] at hj;have h8:=zBb hf.1.1 _ _ hj;rwa [Nat.zero_add] at h8) (by omega) (fun u hu=>HO1.out u (List.mem_of_mem_drop hu)) ?_;clear hO;intro w9 hO;rw [show i+(n-i)=n from by omega];(replace hf:=fa_ hO));go_step;refine hK8 _ _ trivial ?_;clear hK8 K8;(refine ss_ hO ?_;clear hO hf;intro w9 hO hf);refine zAA ?_;go_wp2_with (first|((with_reducible show wpList _ _ _ (Oper.mk _ (.call { callee:=.builtin .clear,args:=_,argTypes:=_ }) _ _ _ _::_) _ _);(refine zE2 hO (g:=g) (n:=n+1) pk_ rfl (.tmp 31) 32 rfl iR _ Tryz.underlying32 hiR hzR (n*2) 1 _ rfl (by omega) [.string ⟨#[]⟩,.string ⟨#[]⟩] (by kernel_rfl) (by simp;omega) (by repeat (first | exact zAp | refine zAf rfl ?_)) ?_;clear hO;intro w9 hO;(replace hf:=fa_ hO)))|(refine sq_ ?_;clear hO hf;intro w9 hO hf));go_ret;refine ⟨(),rfl,?_⟩;have hO:=(hO.pick (.here _ _)).rowCut n (by omega);rw [zJO xs _ i n hxl hi rfl] at hO;exact hO
