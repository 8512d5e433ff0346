/- Texts Read of this claim, laid together. -/
import Derived.Test.YtagcmjmcjpjihaaGreatDoorHC18
import Derived.Test.YtagcmjmcjpjihaaGreatDoorHC11
set_option linter.unusedVariables false
set_option linter.unusedSimpArgs false
set_option maxHeartbeats 8000000
set_option maxRecDepth 100000
namespace Go.Proofs.YtagcmjmcjpjihaaGreatDoor
open Go.ChangeShapes Go.WideShapes Go.ChangeAt Go.RowKit Go.Joins Go.Deep
open Go.ChangeMaps (open_string)
def zTE (w:World) (a:Option Addr) (sz:Nat) (rows:List (List Value)):Prop:=
 rows=[]∨∃b off,a=some ⟨b,off,none⟩∧∀i (h:i<rows.length) k (hk:k<rows[i].length),w.cell? ⟨b,off+i*sz+k,none⟩=some rows[i][k]
theorem zSn {α:Type} {n:Nat} {p:Nat→α→Prop} (h:∀i,i<n→∃x,p i x):∃l:List α,l.length=n∧∀i (hi:i<l.length),p i l[i]:=by
 induction n with
 | zero=>exact ⟨[],rfl,fun i hi=>absurd hi (Nat.not_lt_zero _)⟩
 | succ n ih=>
  obtain ⟨l,hl,hp⟩:=ih fun i hi=>h i (Nat.lt_succ_of_lt hi)
  obtain ⟨x,hx⟩:=h n (Nat.lt_succ_self n);refine ⟨l++[x],by simp [hl],fun i hi=>?_⟩;by_cases hi':i<l.length
  ·rw [List.getElem_append_left hi'];exact hp i hi'
  ·have hin:i=n:=by simp [hl] at hi;omega
   subst hin;rw [List.getElem_append_right (by omega)];simpa [hl] using hx
theorem zMy {α β:Type} {f:α→β}:∀{rows:List β},(∀r∈rows,∃x,r=f x)→∃l:List α,rows=l.map f
 | [],_=>⟨[],rfl⟩
 | r::rows,h=>by
  obtain ⟨x,hx⟩:=h r (List.mem_cons_self ..);obtain ⟨l,hl⟩:=zMy (rows:=rows) fun r hr=>h r (List.mem_cons_of_mem _ hr)
  exact ⟨x::l,by rw [hx,hl];rfl⟩
section
variable {H:Type} {enc:TypeId×Value→H} {P:Program} {w:World} {base:Nat} {spare:Nat→Bool} {held:Bool}
theorem zJ6 {α β:Type} {f:α→Option β}:∀{l:List α} {cs:List β},l.mapM f=some cs→cs.length=l.length∧∀i (h:i<l.length) (h':i<cs.length),f l[i]=some cs[i]
 | [],cs,h=>by simp at h;subst h;exact ⟨rfl,fun i hi=>absurd hi (Nat.not_lt_zero _)⟩
 | x::l,cs,h=>by
  simp only [List.mapM_cons,Option.bind_eq_bind,Option.bind_eq_some_iff,Option.pure_def,Option.some.injEq] at h;obtain ⟨y,hy,ys,hys,rfl⟩:=h;obtain ⟨h1,h2⟩:=zJ6 hys;refine ⟨by simp [h1],fun i hi hi'=>?_⟩;cases i with
  | zero=>exact hy
  | succ i=>exact h2 i (by simpa using hi) (by simpa using hi')
theorem cells_of_cells? {a:Addr} {n:Nat} {cs:List Value} (h:w.cells? base a n=some cs):cs.length=n∧∀k (hk:k<cs.length),w.cell? (a.add k)=some cs[k]:=by
 unfold World.cells? at h;split at h
 ·obtain ⟨h1,h2⟩:=zJ6 h;have hl:cs.length=n:=by simpa using h1
  exact ⟨hl,fun k hk=>by have:=h2 k (by simpa using (by omega:k<n)) hk;simpa using this⟩
 ·cases h
theorem zFf {t e:TypeId} {sz fuel:Nat} {cs:List Value} {x:DataW H×List MemPlace} (ht:P.underlying t=some (.slice e)) (hsz:P.cellsOf e=sz) (hpos:0<sz)
 (h:DataW.trod enc P w base spare held fuel t cs=some x) :
 ∃a cap rows,cs=[.slice a (List.length rows) cap]∧rows.length≤cap∧cap≤maxLen∧zTE w a sz rows∧∀r∈rows,r.length=sz∧∃n y,DataW.trod enc P w base spare held n e r=some y:=by
 rcases open_slice ht h with ⟨rfl,_⟩ | ⟨a,len,cap,m,n,D,Pl,rfl,_,hl,hm,hmm,_,hel⟩
 ·exact ⟨none,0,[],rfl,Nat.le_refl _,Nat.zero_le _,.inl rfl,fun r hr=>by cases hr⟩
 ·have hlm:len≤m:=by rw [hmm];split<;>omega
  rw [hsz] at hel;obtain ⟨rows,hrl,hrows⟩:=zSn fun i (hi:i<len)=>hel i (by omega)
  refine ⟨some a,cap,rows,by rw [hrl],by omega,hm,?_,?_⟩
  ·cases hr:rows with
   | nil=>exact .inl rfl
   | cons r0 rs=>
    right;rw [←hr];have h0:=hrows 0 (by rw [hr];simp);obtain ⟨hl0,hc0⟩:=cells_of_cells? h0.1;have hsp:a.spot=none:=by
     have:=hc0 0 (by omega);cases hs:a.spot with
     | none=>rfl
     | some s=>
      unfold World.cell? at this;simp [Addr.add,hs] at this;split at this<;>cases this
    refine ⟨a.block,a.off,by cases a;simp_all,fun i hi k hk=>?_⟩;obtain ⟨hl1,hc1⟩:=cells_of_cells? (hrows i hi).1;have:=hc1 k hk;rw [←this]
    congr 1
    unfold Addr.add;cases a;simp only at hsp;subst hsp;by_cases h1:i*sz=0<;>by_cases h2:k=0<;>simp [h1,h2]
  ·intro r hr;obtain ⟨i,hi,rfl⟩:=List.getElem_of_mem hr;exact ⟨(cells_of_cells? (hrows i hi).1).1,n,_,(hrows i hi).2⟩
def zOf (P:Program) (t:TypeId) (fs:Array Field):Bool:=fs.toList.zipIdx.all (fun x=>x.1.offset==x.2&&P.cellsOf x.1.type==1)&&P.cellsOf t==fs.size
theorem zFw {t:TypeId} {fs:Array Field} {n:Nat} {r:List Value} {y:DataW H×List MemPlace} (ht:P.underlying t=some (.struct fs)) (h1:zOf P t fs=true)
 (h:DataW.trod enc P w base spare held n t r=some y):r.length=fs.size∧∀i f (hi:i<r.length),fs[i]?=some f→∃m z,DataW.trod enc P w base spare held m f.type [r[i]]=some z:=by
 obtain ⟨xs,m,_,rfl,hl,hlen,hf⟩:=DataW.trod_struct ht h;simp only [zOf,Bool.and_eq_true,List.all_eq_true,beq_iff_eq] at h1;refine ⟨hl.trans h1.2,fun i f hi hfi=>?_⟩;have hix:(f,i)∈fs.toList.zipIdx:=by
  rw [List.mem_zipIdx_iff_getElem?];simpa using hfi
 obtain ⟨ho,hc⟩:=h1.1 (f,i) hix;simp only at ho hc;have:=hf i f (by simpa using hfi);rw [ho,hc,List.drop_eq_getElem_cons hi,List.take_succ_cons,List.take_zero,List.getElem?_eq_getElem (by omega)] at this;exact ⟨m,_,this⟩
theorem zRp {n:Nat} {r:List Value} {y:DataW H×List MemPlace} (h:DataW.trod enc Tryz.prog w base spare held n 98 r=some y):∃s:Sp,r=[.string s.lo,.string s.hi]:=by
 obtain ⟨hl,hf⟩:=zFw Tryz.underlying98 (by kernel_rfl) h
 match r,hl with
 | [c0,c1],_=>
  obtain ⟨_,_,h0⟩:=hf 0 _ (by simp) rfl;obtain ⟨_,_,h1⟩:=hf 1 _ (by simp) rfl;obtain ⟨lo,e0,_,_⟩:=DataW.trod_string Tryz.underlying9 h0;obtain ⟨hi,e1,_,_⟩:=DataW.trod_string Tryz.underlying9 h1;simp at e0 e1;exact ⟨⟨lo,hi⟩,by rw [e0,e1]⟩
theorem zRv {b0:Nat} {v:Value} {d:DataW H} {p:List MemPlace} (hv:Value.okWide Tryz.prog w .any b0 98 v) (h:DataW.Trod enc Tryz.prog w base spare held 98 v d p) :
 ∃lo hi:ByteArray,v=.agg #[.string lo,.string hi]:=by
 obtain ⟨a0,a1,y0,y1,m,rfl,_,_,hy0,hy1⟩:=open_agg2 Tryz.underlying98 (by kernel_rfl) (by kernel_rfl) hv h;obtain ⟨lo,e0,_,_⟩:=DataW.trod_string Tryz.underlying9 hy0;obtain ⟨hi,e1,_,_⟩:=DataW.trod_string Tryz.underlying9 hy1;simp only [List.cons.injEq,and_true] at e0 e1;exact ⟨lo,hi,by rw [e0,e1]⟩
theorem zFS {b0:Nat} {v:Value} {d:DataW H} {p:List MemPlace} (hv:Value.okWide Tryz.prog w .any b0 9 v) (h:DataW.Trod enc Tryz.prog w base spare held 9 v d p) :
 ∃s:ByteArray,v=.string s∧s.size≤maxLen:=by
 obtain ⟨s,rfl,_,_,hs⟩:=open_string Tryz.underlying9 hv h;exact ⟨s,rfl,hs⟩
theorem zRG {n:Nat} {cs:List Value} {y:DataW H×List MemPlace} (h:DataW.trod enc Tryz.prog w base spare held n 37 cs=some y) :
 ∃a cap,∃l:List Sp,cs=[.slice a l.length cap]∧l.length≤maxLen∧SpansAt w a l:=by
 obtain ⟨a,cap,rows,rfl,h1,h2,h3,h4⟩:=zFf (sz:=2) Tryz.underlying37 (by kernel_rfl) (by omega) h;obtain ⟨l,rfl⟩:=zMy (f:=fun s:Sp=>[Value.string s.lo,Value.string s.hi]) fun r hr=>by obtain ⟨_,n,y,hy⟩:=h4 r hr;exact zRp hy
 refine ⟨a,cap,l,by simp,by simp at h1;omega,h3.imp (by simp) fun ⟨b,off,ha,hc⟩=>⟨b,off,ha,fun i hi=>?_⟩⟩;have g0:=hc i (by simpa using hi) 0 (by simp);have g1:=hc i (by simpa using hi) 1 (by simp);simp at g0 g1;exact ⟨g0,g1⟩
end
