/- Texts ReadActs of this claim, laid together. -/
import Derived.Test.YtagcmjmcjpjihaaGreatDoorHC20
import Derived.Test.YtagcmjmcjpjihaaGreatDoorHC13
set_option linter.unusedVariables false
set_option linter.unusedSimpArgs false
set_option maxHeartbeats 8000000
set_option maxRecDepth 100000
namespace Go.Proofs.YtagcmjmcjpjihaaGreatDoor
open Go.ChangeShapes Go.WideShapes Go.ChangeAt Go.RowKit Go.Joins
open Go.ChangeMaps (open_string)
section
variable {H:Type} {enc:TypeId×Value→H} {w:World} {base:Nat} {spare:Nat→Bool} {held:Bool}
theorem zOm {n:Nat} {r:List Value} {y:DataW H×List MemPlace} (h:DataW.trod enc Tryz.prog w base spare held n 142 r=some y):∃s:Ch,r=[.string s.key,.string s.val,.bool s.gone]:=by
 obtain ⟨hl,hf⟩:=zFw Tryz.underlying142 (by kernel_rfl) h
 match r,hl with
 | [c0,c1,c2],_=>
  obtain ⟨_,_,h0⟩:=hf 0 _ (by simp) rfl;obtain ⟨_,_,h1⟩:=hf 1 _ (by simp) rfl;obtain ⟨_,_,h2⟩:=hf 2 _ (by simp) rfl;obtain ⟨x0,e0,_,_⟩:=DataW.trod_string Tryz.underlying9 h0;obtain ⟨x1,e1,_,_⟩:=DataW.trod_string Tryz.underlying9 h1;obtain ⟨x2,e2,_⟩:=DataW.trod_bool Tryz.underlying4 h2;simp at e0 e1 e2;exact ⟨⟨x0,x1,x2⟩,by rw [e0,e1,e2]⟩
theorem zOx {n:Nat} {cs:List Value} {y:DataW H×List MemPlace} (h:DataW.trod enc Tryz.prog w base spare held n 36 cs=some y) :
 ∃a cap,∃l:List Ch,cs=[.slice a l.length cap]∧l.length≤maxLen∧ChangesAt w a l:=by
 obtain ⟨a,cap,rows,rfl,h1,h2,h3,h4⟩:=zFf (sz:=3) Tryz.underlying36 (by kernel_rfl) (by omega) h;obtain ⟨l,rfl⟩:=zMy (f:=fun s:Ch=>[Value.string s.key,Value.string s.val,Value.bool s.gone]) fun r hr=>by obtain ⟨_,n,y,hy⟩:=h4 r hr;exact zOm hy
 refine ⟨a,cap,l,by simp,by simp at h1;omega,h3.imp (by simp) fun ⟨b,off,ha,hc⟩=>⟨b,off,ha,fun i hi=>?_⟩⟩;have g0:=hc i (by simpa using hi) 0 (by simp);have g1:=hc i (by simpa using hi) 1 (by simp);have g2:=hc i (by simpa using hi) 2 (by simp);simp at g0 g1 g2;exact ⟨g0,g1,g2⟩
theorem zTI {n:Nat} {r:List Value} {y:DataW H×List MemPlace} (h:DataW.trod enc Tryz.prog w base spare held n 39 r=some y):∃x:Ac,r=x.cells∧x.wf w:=by
 obtain ⟨hl,hf⟩:=zFw Tryz.underlying39 (by kernel_rfl) h
 match r,hl with
 | [c0,c1,c2,c3,c4,c5,c6,c7,c8],_=>
  obtain ⟨_,_,h0⟩:=hf 0 _ (by simp) rfl;obtain ⟨_,_,h1⟩:=hf 1 _ (by simp) rfl;obtain ⟨_,_,h2⟩:=hf 2 _ (by simp) rfl;obtain ⟨_,_,h3⟩:=hf 3 _ (by simp) rfl;obtain ⟨_,_,h4⟩:=hf 4 _ (by simp) rfl;obtain ⟨_,_,h5⟩:=hf 5 _ (by simp) rfl;obtain ⟨_,_,h6⟩:=hf 6 _ (by simp) rfl;obtain ⟨_,_,h7⟩:=hf 7 _ (by simp) rfl;obtain ⟨_,_,h8⟩:=hf 8 _ (by simp) rfl;obtain ⟨x0,e0,_,_⟩:=DataW.trod_string Tryz.underlying9 h0;obtain ⟨x1,e1,_,w1⟩:=DataW.trod_int Tryz.underlying3 h1;obtain ⟨x2,e2,_,w2⟩:=DataW.trod_int Tryz.underlying3 h2;obtain ⟨x3,e3,_,w3⟩:=DataW.trod_int Tryz.underlying3 h3;obtain ⟨x4,e4,_,w4⟩:=DataW.trod_int Tryz.underlying35 h4;obtain ⟨x5,e5,_,_⟩:=DataW.trod_string Tryz.underlying9 h5;obtain ⟨x6,e6,_,_⟩:=DataW.trod_string Tryz.underlying9 h6;obtain ⟨cp,cc,ch,e7,l7,s7⟩:=zOx h7;obtain ⟨sp,sc,sl,e8,l8,s8⟩:=zRG h8;simp at e0 e1 e2 e3 e4 e5 e6 e7 e8;exact ⟨⟨x0,x1,x2,x3,x4,x5,x6,cp,cc,ch,sp,sc,sl⟩,by rw [e0,e1,e2,e3,e4,e5,e6,e7,e8];rfl,⟨w1,w2,w3,w4⟩,s7,s8,l7,l8⟩
theorem zJ4 {b0:Nat} {v:Value} {d:DataW H} {p:List MemPlace} (hv:Value.okWide Tryz.prog w .any b0 22 v) (h:DataW.Trod enc Tryz.prog w base spare held 22 v d p) :
 ∃a cap,∃l:List Ac,v=.slice a l.length cap∧l.length≤cap∧cap≤maxLen∧ActsAt w a l:=by
 obtain ⟨a0,len,cap0,rfl⟩:=okWide_slice Tryz.underlying22 hv;obtain ⟨n,hf⟩:=h;obtain ⟨a,cap,rows,hcs,h1,h2,h3,h4⟩:=zFf (sz:=9) Tryz.underlying22 (by kernel_rfl) (by omega) hf;simp only [Value.cells,List.cons.injEq,Value.slice.injEq,and_true] at hcs;obtain ⟨rfl,rfl,rfl⟩:=hcs;obtain ⟨l,hl,hall⟩:∃l:List Ac,rows=l.map Ac.cells∧∀x∈l,x.wf w:=by
  have:∀rows:List (List Value),(∀r∈rows,∃x:Ac,r=x.cells∧x.wf w)→∃l:List Ac,rows=l.map Ac.cells∧∀x∈l,x.wf w:=by
   intro rows
   induction rows with
   | nil=>exact fun _=>⟨[],rfl,fun x hx=>by cases hx⟩
   | cons r rows ih=>
    intro h;obtain ⟨x,hx,hw⟩:=h r (List.mem_cons_self ..);obtain ⟨l,hl,hlw⟩:=ih fun r hr=>h r (List.mem_cons_of_mem _ hr)
    exact ⟨x::l,by rw [hx,hl];rfl,fun y hy=>by
     rcases List.mem_cons.1 hy with rfl | hy
     ·exact hw
     ·exact hlw y hy⟩
  exact this rows fun r hr=>by obtain ⟨_,n,y,hy⟩:=h4 r hr;exact zTI hy
 subst hl;refine ⟨a0,cap0,l,by simp,by simpa using h1,h2,h3.imp (by simp) fun ⟨b,off,ha,hc⟩=>⟨b,off,ha,fun i hi=>?_⟩,hall⟩;have g:=fun k hk=>hc i (by simpa using hi) k (by simpa [Ac.cells] using hk)
 simp only [List.getElem_map] at g;exact ⟨g 0 (by simp),g 1 (by simp),g 2 (by simp),g 3 (by simp),g 4 (by simp),g 5 (by simp),g 6 (by simp),g 7 (by simp),g 8 (by simp)⟩
theorem zD2 {b0:Nat} {v:Value} {d:DataW H} {p:List MemPlace} (hv:Value.okWide Tryz.prog w .any b0 22 v) (h:DataW.Trod enc Tryz.prog w base spare held 22 v d p) :
 ∃a cap,∃l:List Ac,v=.slice a l.length cap∧l.length≤maxLen∧ActsAt w a l:=by
 obtain ⟨a,cap,l,h1,h2,h3,h4⟩:=zJ4 hv h;exact ⟨a,cap,l,h1,Nat.le_trans h2 h3,h4⟩
end
