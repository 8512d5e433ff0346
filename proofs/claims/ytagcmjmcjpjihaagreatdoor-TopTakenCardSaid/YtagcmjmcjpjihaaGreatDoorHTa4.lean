/- Texts ReadActs+, Args2, Ints of this claim, laid together. -/
import Derived.Test.YtagcmjmcjpjihaaGreatDoorHTa3
import Derived.Test.YtagcmjmcjpjihaaGreatDoorHC21
set_option linter.unusedVariables false
set_option linter.unusedSimpArgs false
set_option maxHeartbeats 8000000
set_option maxRecDepth 100000
namespace Go.Proofs.YtagcmjmcjpjihaaGreatDoor
open Go.ChangeShapes Go.WideShapes Go.ChangeAt Go.RowKit Go.Joins
open Go.ChangeMaps (open_string)
section
variable {H:Type} {enc:TypeId×Value→H} {w:World} {base:Nat} {spare:Nat→Bool} {held:Bool}
theorem zUs {b0:Nat} {v:Value} {d:DataW H} {p:List MemPlace} (hv:Value.okWide Tryz.prog w .any b0 3 v) (h:DataW.Trod enc Tryz.prog w base spare held 3 v d p) :
 ∃n:Int,v=.int .i64 n∧(Lit.int .i64 n).wf=true:=by
 obtain ⟨n,rfl⟩:=okWide_int Tryz.underlying3 hv;obtain ⟨_,hf⟩:=h;obtain ⟨m,e,_,hw⟩:=DataW.trod_int Tryz.underlying3 hf;simp [Value.cells] at e;exact ⟨n,rfl,by rw [e];exact hw⟩
end
end Go.Proofs.YtagcmjmcjpjihaaGreatDoor
namespace Go.Proofs.YtagcmjmcjpjihaaGreatDoor
open Go.ChangeShapes Go.RowKit Go.WideShapes
open Go.ChangeMaps (open_string)
section
variable {H:Type} {enc:TypeId×Value→H} {P:Program} {w:World} {base:Nat} {spare:Nat→Bool} {held:Bool}
end
section
variable {H:Type} {enc:TypeId×Value→H} {w:World} {base:Nat} {spare:Nat→Bool} {held:Bool}
end
end Go.Proofs.YtagcmjmcjpjihaaGreatDoor
namespace Go.Proofs.YtagcmjmcjpjihaaGreatDoor
open Go.ChangeShapes Go.RowKit Go.WideShapes
section
variable {H:Type} {enc:TypeId×Value→H} {w:World} {base:Nat} {spare:Nat→Bool} {held:Bool}
theorem zVW {n:Nat} {cs:List Value} {y:DataW H×List MemPlace} (h:DataW.trod enc Tryz.prog w base spare held n 78 cs=some y) :
 ∃a cap,∃l:List Int,cs=[.slice a l.length cap]∧l.length≤maxLen∧ValsAt w a (l.map (.int .i64)):=by
 obtain ⟨a,cap,rows,rfl,h1,h2,h3,h4⟩:=zFf (sz:=1) Tryz.underlying78 (by kernel_rfl) (by omega) h;obtain ⟨l,rfl⟩:=zMy (f:=fun s:Int=>[Value.int .i64 s]) fun r hr=>by
  obtain ⟨_,n,y,hy⟩:=h4 r hr;obtain ⟨x,e,_,_⟩:=DataW.trod_int Tryz.underlying3 hy;exact ⟨x,e⟩
 refine ⟨a,cap,l,by simp,by simp at h1;omega,h3.imp (by simp) fun ⟨b,off,ha,hc⟩=>⟨b,off,ha,fun i hi=>?_⟩⟩;have g0:=hc i (by simpa using hi) 0 (by simp);simp at g0 ⊢;exact g0
theorem zVL {b0:Nat} {v:Value} {d:DataW H} {p:List MemPlace} (hv:Value.okWide Tryz.prog w .any b0 78 v) (h:DataW.Trod enc Tryz.prog w base spare held 78 v d p) :
 ∃a cap,∃l:List Int,v=.slice a l.length cap∧l.length≤maxLen∧ValsAt w a (l.map (.int .i64)):=by
 obtain ⟨a0,len,cap,rfl⟩:=okWide_slice Tryz.underlying78 hv;obtain ⟨n,hf⟩:=h;obtain ⟨a,cap',l,hcs,h1,h2⟩:=zVW hf;simp [Value.cells] at hcs;obtain ⟨rfl,rfl,rfl⟩:=hcs;exact ⟨_,_,l,rfl,h1,h2⟩
end
