/- Texts Ch of this claim, laid together. -/
import Derived.Test.YtagcmjmcjpjihaaGreatDoorHC3
import Derived.Test.YtagcmjmcjpjihaaGreatDoorHC6
set_option linter.unusedVariables false
set_option linter.unusedSimpArgs false
namespace Go.Proofs.YtagcmjmcjpjihaaGreatDoor
open Go.RowKit
structure Ch where
 key:ByteArray
 val:ByteArray
 gone:Bool
deriving DecidableEq
def Ch.cells (c:Ch):List Value:=[.string c.key,.string c.val,.bool c.gone]
def Ch.v (c:Ch):Value:=.agg #[.string c.key,.string c.val,.bool c.gone]
def chs (l:List Ch):List Value:=l.flatMap Ch.cells
theorem zCG (l:List Ch):(chs l).length=l.length*3:=zHZ (f:=Ch.cells) (k:=3) (fun _=>rfl) l
theorem Ch.ones (x:Ch):∀u∈x.cells,u.oneCell'=true:=fun u hu=>by
 simp only [Ch.cells,List.mem_cons,List.not_mem_nil,or_false] at hu;rcases hu with rfl | rfl | rfl<;>rfl
theorem zJv (l:List Ch):∀u∈chs l,u.oneCell'=true:=fun u hu=>by
 obtain ⟨c,_,h⟩:=List.mem_flatMap.1 hu;exact Ch.ones c u h
theorem zIW (l m:List Ch):chs (l++m)=chs l++chs m:=by unfold chs;rw [List.flatMap_append]
theorem zRF (c:Ch):chs [c]=c.cells:=by simp [chs]
theorem zMG:∀(l:List Ch) (i:Nat),(chs l).take (i*3)=chs (l.take i)
 | [],i=>by simp [chs]
 | _::_,0=>rfl
 | c::l,i+1=>by
  rw [show (i+1)*3=i*3+3 from by omega];show (c.cells++chs l).take (i*3+3)=c.cells++chs (l.take i);rw [←zMG l i];rfl
theorem zMe:∀(l:List Ch) (i:Nat),(chs l).drop (i*3)=chs (l.drop i)
 | [],i=>by simp [chs]
 | _::_,0=>rfl
 | c::l,i+1=>by
  rw [show (i+1)*3=i*3+3 from by omega];show (c.cells++chs l).drop (i*3+3)=chs (l.drop i);rw [←zMe l i];rfl
def ChAt (w:World) (a:Option Addr) (l:List Ch):Prop:=ValsAt w a (chs l)
theorem ChAt.at {w:World} {b off:Nat} {l:List Ch} (h:ChAt w (some ⟨b,off,none⟩) l) {i:Nat} (hi:i<l.length) :
 w.cell? ⟨b,off+i*3,none⟩=some (.string l[i].key)∧w.cell? ⟨b,off+i*3+1,none⟩=some (.string l[i].val)∧w.cell? ⟨b,off+i*3+2,none⟩=some (.bool l[i].gone):=by
 have g:∀c v,(l[i].cells)[c]?=some v→w.cell? ⟨b,off+(i*3+c),none⟩=some v:=fun c v hv=>ValsAt.get h (zEl (f:=Ch.cells) (k:=3) (fun _=>rfl) hi c v hv)
 exact ⟨g 0 _ rfl,g 1 _ rfl,g 2 _ rfl⟩
theorem ChAt.some {w:World} {a:Option Addr} {l:List Ch} (h:ChAt w a l) (hl:0<l.length):∃b off,a=some ⟨b,off,none⟩:=by
 rcases h with h | ⟨b,off,ha,_⟩
 ·have:(chs l).length=0:=by rw [h];rfl
  rw [zCG] at this;omega
 ·exact ⟨b,off,ha⟩
def zC6 (l:List Ch) (i:Nat) (x:Ch):List Ch:=l.take i++x::l.drop i
theorem zLX (l:List Ch) (i:Nat) (x:Ch) (hi:i≤l.length):(zC6 l i x).length=l.length+1:=by
 unfold zC6;rw [List.length_append,List.length_cons,List.length_take,List.length_drop];omega
theorem zFI (l:List Ch) (i:Nat) (x:Ch):chs (zC6 l i x)=(chs l).take (i*3)++(x.cells++(chs l).drop (i*3)):=by
 unfold zC6;rw [zIW,zMG,zMe];rfl
theorem zQ5 (l:List Ch) (x:Ch):chs (zC6 l l.length x)=chs l++x.cells:=by
 rw [zFI,←zCG,List.take_length,List.drop_length,List.append_nil]
def Ups (l:List Ch):Prop:=l.Pairwise fun x y=>slt x.key y.key=true
def low (l:List Ch) (k:ByteArray):List Ch:=l.filter fun x=>slt x.key k
def high (l:List Ch) (k:ByteArray):List Ch:=l.filter fun x=>slt k x.key
def putC (l:List Ch) (c:Ch):List Ch:=low l c.key++c::high l c.key
def idxC (l:List Ch) (k:ByteArray):Nat:=(low l k).length
theorem zHB (l:List Ch) (k:ByteArray):idxC l k≤l.length:=List.length_filter_le _ _
theorem Ups.tail {x:Ch} {l:List Ch} (h:Ups (x::l)):Ups l:=(List.pairwise_cons.1 h).2
theorem Ups.head {x:Ch} {l:List Ch} (h:Ups (x::l)):∀y∈l,slt x.key y.key=true:=(List.pairwise_cons.1 h).1
theorem zSE {l:List Ch} {k:ByteArray} (h:∀y∈l,slt k y.key=true):high l k=l∧low l k=[]:=
 ⟨List.filter_eq_self.2 h,List.filter_eq_nil_iff.2 fun y hy=>by rw [zBR (h y hy)];simp⟩
theorem Ups.low_take:∀{l:List Ch} (k:ByteArray),Ups l→low l k=l.take (idxC l k)
 | [],_,_=>rfl
 | x::l,k,h=>by
  cases hx:slt x.key k with
  | true=>
   have e:low (x::l) k=x::low l k:=by simp [low,hx]
   unfold idxC;rw [e,List.length_cons,List.take_succ_cons,show (low l k).length=idxC l k from rfl,←Ups.low_take k h.tail]
  | false=>
   have e:low (x::l) k=[]:=by
    refine List.filter_eq_nil_iff.2 fun y hy=>?_
    rcases List.mem_cons.1 hy with rfl | hy
    ·rw [hx];simp
    ·have h1:=h.head y hy;cases h2:slt y.key k with
     | false=>simp
     | true=>rw [zAv h1 h2] at hx;cases hx
   unfold idxC;rw [e];rfl
theorem Ups.at_low:∀{l:List Ch} (k:ByteArray),Ups l→∀{i:Nat} (hi:i<l.length),slt l[i].key k=decide (i<idxC l k)
 | [],_,_,_,hi=>absurd hi (Nat.not_lt_zero _)
 | x::l,k,h,i,hi=>by
  cases hx:slt x.key k with
  | true=>
   have e:idxC (x::l) k=idxC l k+1:=by simp [idxC,low,hx]
   rw [e];cases i with
   | zero=>simp [hx]
   | succ i=>
    have:=Ups.at_low k h.tail (i:=i) (by simpa using hi);simpa using this
  | false=>
   have e:idxC (x::l) k=0:=by
    have:=Ups.low_take k h;unfold idxC;refine List.length_eq_zero_iff.2 (List.filter_eq_nil_iff.2 fun y hy=>?_);rcases List.mem_cons.1 hy with rfl | hy
    ·rw [hx];simp
    ·have h1:=h.head y hy;cases h2:slt y.key k with
     | false=>simp
     | true=>rw [zAv h1 h2] at hx;cases hx
   rw [e];have h0:¬i<0:=by omega
   rw [decide_eq_false h0];cases i with
   | zero=>exact hx
   | succ i=>
    have hi':i<l.length:=by simpa using hi
    show slt l[i].key k=false;have h1:=h.head l[i] (List.getElem_mem hi');cases h2:slt l[i].key k with
    | false=>rfl
    | true=>rw [zAv h1 h2] at hx;cases hx
theorem Ups.high_drop:∀{l:List Ch} (k:ByteArray),Ups l→∀(hi:idxC l k<l.length),l[idxC l k].key=k→high l k=l.drop (idxC l k+1)
 | [],_,_,hi,_=>absurd hi (Nat.not_lt_zero _)
 | x::l,k,h,hi,he=>by
  cases hx:slt x.key k with
  | true=>
   have e:idxC (x::l) k=idxC l k+1:=by simp [idxC,low,hx]
   have e2:high (x::l) k=high l k:=by simp [high,zBR hx]
   have hi':idxC l k<l.length:=by rw [e] at hi;simpa using hi
   have he':l[idxC l k].key=k:=by
    have:(x::l)[idxC (x::l) k]?=some l[idxC l k]:=by rw [e];simp [hi']
    rw [List.getElem?_eq_getElem hi] at this;injection this with this
    rw [←this];exact he
   rw [e,e2,Ups.high_drop k h.tail hi' he'];rfl
  | false=>
   have e:idxC (x::l) k=0:=by
    have:=Ups.at_low k h (i:=0) (by simp);rw [show (x::l)[0].key=x.key from rfl,hx] at this;have:=of_decide_eq_false this.symm;omega
   have hk:x.key=k:=by
    have:(x::l)[idxC (x::l) k]?=some x:=by rw [e];rfl
    rw [List.getElem?_eq_getElem hi] at this;injection this with this
    rw [←this];exact he
   subst hk;have:=(zSE (k:=x.key) h.head).1;rw [e];show high (x::l) x.key=l;rw [←this];simp only [high,List.filter_cons,zBw,List.filter_filter,Bool.and_self,Bool.false_eq_true,if_false]
theorem Ups.high_drop0:∀{l:List Ch} (k:ByteArray),Ups l→(∀(hi:idxC l k<l.length),l[idxC l k].key≠k)→high l k=l.drop (idxC l k)
 | [],_,_,_=>rfl
 | x::l,k,h,he=>by
  cases hx:slt x.key k with
  | true=>
   have e:idxC (x::l) k=idxC l k+1:=by simp [idxC,low,hx]
   have e2:high (x::l) k=high l k:=by simp [high,zBR hx]
   rw [e,e2,Ups.high_drop0 k h.tail fun hi' hk=>?_];rfl;have hi:idxC (x::l) k<(x::l).length:=by rw [e];simpa using hi'
   refine he hi ?_;have:(x::l)[idxC (x::l) k]?=some l[idxC l k]:=by rw [e];simp [hi']
   rw [List.getElem?_eq_getElem hi] at this;injection this with this
   rw [this];exact hk
  | false=>
   have e:idxC (x::l) k=0:=by
    have:=Ups.at_low k h (i:=0) (by simp);rw [show (x::l)[0].key=x.key from rfl,hx] at this;have:=of_decide_eq_false this.symm;omega
   have hi:idxC (x::l) k<(x::l).length:=by rw [e];simp
   have hne:x.key≠k:=by
    have:=he hi;have h2:(x::l)[idxC (x::l) k]?=some x:=by rw [e];rfl
    rw [List.getElem?_eq_getElem hi] at h2;injection h2 with h2
    rwa [h2] at this
   have hk:=zDp hx hne;rw [e,List.drop_zero];exact List.filter_eq_self.2 fun y hy=>by
    rcases List.mem_cons.1 hy with rfl | hy
    ·exact hk
    ·exact zAv hk (h.head y hy)
theorem Ups.put_set {l:List Ch} {c:Ch} (h:Ups l) (hi:idxC l c.key<l.length) (he:l[idxC l c.key].key=c.key):putC l c=l.set (idxC l c.key) c:=by
 unfold putC;rw [h.low_take,h.high_drop _ hi he,List.set_eq_take_append_cons_drop,if_pos hi]
theorem Ups.put_ins {l:List Ch} {c:Ch} (h:Ups l) (he:∀(hi:idxC l c.key<l.length),l[idxC l c.key].key≠c.key):putC l c=zC6 l (idxC l c.key) c:=by
 unfold putC zC6;rw [h.low_take,h.high_drop0 _ he]
theorem Ups.put {l:List Ch} (c:Ch) (h:Ups l):Ups (putC l c):=by
 unfold putC Ups;rw [List.pairwise_append];refine ⟨h.filter _,List.pairwise_cons.2 ⟨fun y hy=>(List.mem_filter.1 hy).2,h.filter _⟩,fun a ha b hb=>?_⟩;have ha:=(List.mem_filter.1 ha).2;rcases List.mem_cons.1 hb with rfl | hb
 ·exact ha
 ·exact zAv ha (List.mem_filter.1 hb).2
def zCS (l:List Ch) (k:ByteArray):Option Ch:=l.find? fun x=>decide (x.key=k)
theorem zTM {l:List Ch} {c x:Ch} (h:x∈putC l c):x=c∨x∈l:=by
 rcases List.mem_append.1 h with h | h
 ·exact .inr (List.mem_filter.1 h).1
 ·rcases List.mem_cons.1 h with h | h
  ·exact .inl h
  ·exact .inr (List.mem_filter.1 h).1
theorem zMY (l:List Ch) (k:ByteArray):zCS (low l k) k=none:=by
 refine List.find?_eq_none.2 fun x hx=>?_
 have:=(List.mem_filter.1 hx).2;simpa using zBr this
theorem zQ4 (l:List Ch) (k:ByteArray):zCS (high l k) k=none:=by
 refine List.find?_eq_none.2 fun x hx=>?_
 have:=(List.mem_filter.1 hx).2;simpa using (zBr this).symm
theorem Ups.find_yes {l:List Ch} {k:ByteArray} (h:Ups l) (hi:idxC l k<l.length) (he:l[idxC l k].key=k):zCS l k=some l[idxC l k]:=by
 have e:l=l.take (idxC l k)++l[idxC l k]::l.drop (idxC l k+1):=by
  rw [List.getElem_cons_drop,List.take_append_drop]
 unfold zCS
 conv=>lhs;rw [e]
 rw [List.find?_append,←h.low_take];have:=zMY l k;unfold zCS at this;rw [this,Option.none_or,List.find?_cons_of_pos (by simp [he])]
theorem Ups.find_no {l:List Ch} {k:ByteArray} (h:Ups l) (he:∀(hi:idxC l k<l.length),l[idxC l k].key≠k):zCS l k=none:=by
 have e:l=low l k++high l k:=by rw [h.low_take,h.high_drop0 _ he,List.take_append_drop]
 unfold zCS;rw [e,List.find?_append];have h1:=zMY l k;have h2:=zQ4 l k;unfold zCS at h1 h2;rw [h1,h2];rfl
