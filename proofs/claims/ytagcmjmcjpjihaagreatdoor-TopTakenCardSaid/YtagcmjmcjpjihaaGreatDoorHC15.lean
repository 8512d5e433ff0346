/- Texts At of this claim, laid together. -/
import Derived.RangeFuncNested
import Derived.RangeFuncBound
import Derived.Shelf.RegionOpen
import Derived.OwnWalkIn
import Derived.LoopNIn
import Derived.LoopIn
import Derived.Lib.Hide
import Derived.Test.YtagcmjmcjpjihaaGreatDoorHC2
import Derived.Test.YtagcmjmcjpjihaaGreatDoorProg
set_option linter.unusedVariables false
set_option linter.unusedSimpArgs false
set_option maxHeartbeats 8000000
set_option maxRecDepth 100000
namespace Go.Proofs.YtagcmjmcjpjihaaGreatDoor
open Go.RowKit Go.Shelf
attribute [local go_sem] Oper.semAt_some
structure Vn where
 n:Nat
 val:ByteArray
 gone:Bool
deriving DecidableEq
def verC (v:Vn):List Value:=[.int .i64 v.n,.string v.val,.bool v.gone]
def vnV (v:Vn):Value:=.agg #[.int .i64 v.n,.string v.val,.bool v.gone]
def vAt (vs:List Vn) (j:Nat):Vn:=vs[j]?.getD ⟨0,⟨#[]⟩,false⟩
def upto {α:Type} (f:Nat→α) (k:Nat):List α:=(List.range k).map f
theorem zP9 {α:Type} (f:Nat→α) (k:Nat):upto f (k+1)=upto f k++[f k]:=by simp [upto,List.range_succ]
theorem zNb {α:Type} (f:Nat→α) (k:Nat):(upto f k).length=k:=by simp [upto]
def bwd (vs:List Vn) (len:Nat) (j:Nat):Nat×Vn:=(len-1-j,vAt vs (len-1-j))
def VsAt (n₀:Nat) (W:World) (b off len:Nat) (vs:List Vn):Prop:=∀j,j<len→W.cell? ⟨b,off+j*3,none⟩=some (.int .i64 (vAt vs j).n)∧W.cell? ⟨b,off+j*3+1,none⟩=some (.string (vAt vs j).val)∧W.cell? ⟨b,off+j*3+2,none⟩=some (.bool (vAt vs j).gone)
theorem zS3 (F:Fence) (n:Nat) (hf:F.fn 280) (hro:F.round=none) (hn:1≤n) (l Bs n₀ b off len cap:Nat) (vs:List Vn) (hreach:len≤1000000) (hb:b<n₀) (J Jx:List (Nat×Vn)→World→Prop)
 (hY:∀pre x W,J pre W→pre.length<len→YieldAt F (n-1) Tryz.prog l #[.int .i64 (x.1:Nat),vnV x.2] W fun e W'=>
  (e=.returned (.bool true)∧J (pre++[x]) W'∧Below n₀ W W')∨(e=.returned (.bool false)∧Jx (pre++[x]) W'))
 (W:World) (hBs:W.cell? ⟨Bs,0,none⟩=some (.slice (some ⟨b,off,none⟩) len cap)) (hBn:Bs<n₀) (hc:VsAt n₀ W b off len vs) (h0:J [] W) :
 CallsIn F n Tryz.prog 280 #[.func (.yield l) #[] #[],.pointer (some ⟨Bs,0,none⟩)] W fun e W'=>(∃v,e=.returned v)∧
  ((∃ys,ys=upto (bwd vs len) len∧J ys W')∨(∃pre,(∃k,k≤len∧pre=upto (bwd vs len) k)∧Jx pre W')):=by
 refine callsIn_of_wp Tryz.func280 rfl hf ?_ hro;simp only [Tryz.ntmps280,List.size_toArray,List.length_cons,List.length_nil,Nat.reduceAdd,Nat.reduceSub,Array.replicate_succ,Array.replicate_zero,List.push_toArray,List.append_toArray,List.nil_append,List.cons_append]
 gi_wp2
 gi_loopw [3] (fun i wr=>∃m:Nat,m≤len∧i=.int .i64 ((m:Int)-1)∧J (upto (bwd vs len) (len-m)) wr∧Below n₀ W wr)
  (fun i _=>((intOf i)+1).toNat)
 case atStart=>exact ⟨len,Nat.le_refl _,rfl,by rw [Nat.sub_self];exact h0,Below.refl _ _⟩
 case round=>
  obtain ⟨m,hm,rfl,hJs,hnx⟩:=hrel;have hBs2:=(hnx.cell (p:=⟨Bs,0,none⟩) hBn).trans hBs;cases m with
  | zero=>
   gi_wp2
   go_end0;exact ⟨⟨_,rfl⟩,.inl ⟨_,rfl,hJs⟩⟩
  | succ m=>
   have e1:((m+1:Nat):Int)-1=(m:Int):=by omega
   rw [e1];obtain ⟨c0,c1,c2⟩:=hc m (by omega);have d0:=(hnx.cell (p:=⟨b,off+m*3,none⟩) hb).trans c0;have d1:=(hnx.cell (p:=⟨b,off+m*3+1,none⟩) hb).trans c1;have d2:=(hnx.cell (p:=⟨b,off+m*3+2,none⟩) hb).trans c2;have hbw:bwd vs len (len-(m+1))=(m,vAt vs m):=by unfold bwd;rw [show len-1-(len-(m+1))=m from by omega]
   have hsuc:=zP9 (bwd vs len) (len-(m+1));rw [hbw,show len-(m+1)+1=len-m from by omega] at hsuc;have HS:=Lib.hid hsuc;clear hsuc hbw c0 c1 c2 e1;generalize vAt vs m=x at *;obtain ⟨fn,tmps,assign,body,hy,hR⟩:=hY _ (m,x) _ hJs (by rw [zNb];omega);dsimp only at hy hR;unfold vnV at hy
   gi_wp2
   refine hR.mono ?_;rintro e W3 (⟨rfl,hJ3,hk3⟩ | ⟨rfl,hJx3⟩)
   ·gi_wp2
    go_roundw
    case rel=>exact ⟨m,by omega,by simp,by rw [HS.out];exact hJ3,hnx.trans hk3⟩
    case measure=>simp [intOf]
   ·gi_wp2
    refine bodyPost_ret (results_none rfl _ _ _) rfl ?_;exact ⟨⟨_,rfl⟩,.inr ⟨_,⟨len-m,by omega,HS.out.symm⟩,hJx3⟩⟩
theorem zMA (F:Fence) (n:Nat) (hf:F.fn 280) (hro:F.round=none) (l Bs:Nat) (a:Option Addr) (cap:Nat) (J:List (Nat×Vn)→World→Prop) (W:World)
 (hBs:W.cell? ⟨Bs,0,none⟩=some (.slice a 0 cap)) (h0:J [] W) :
 CallsIn F n Tryz.prog 280 #[.func (.yield l) #[] #[],.pointer (some ⟨Bs,0,none⟩)] W fun e W'=>(∃v,e=.returned v)∧J [] W':=by
 refine callsIn_of_wp Tryz.func280 rfl hf ?_ hro;simp only [Tryz.ntmps280,List.size_toArray,List.length_cons,List.length_nil,Nat.reduceAdd,Nat.reduceSub,Array.replicate_succ,Array.replicate_zero,List.push_toArray,List.append_toArray,List.nil_append,List.cons_append]
 gi_wp2
 gi_loopw [3] (fun i wr=>i=.int .i64 (-1)∧J [] wr) (fun _ _=>0)
 case atStart=>exact ⟨rfl,h0⟩
 case round=>
  obtain ⟨rfl,hJs⟩:=hrel
  gi_wp2
  go_end0;exact ⟨⟨_,rfl⟩,hJs⟩
theorem zNO (F:Fence) (n:Nat) (hf:F.fn 243) (hro:F.round=none) (a:Option Addr) (len cap:Nat) (w:World) :
 CallsIn F n Tryz.prog 243 #[.slice a len cap] w fun e w'=>e=.returned (.func (.func 280) #[] #[.pointer (some ⟨w.heap.size,0,none⟩)])∧w'=w.alloc (.cells #[.slice a len cap] 237):=by
 refine callsIn_of_wp Tryz.func243 rfl hf ?_ hro;simp only [Tryz.ntmps243,List.size_toArray,List.length_cons,List.length_nil,Nat.reduceAdd,Nat.reduceSub,Array.replicate_succ,Array.replicate_zero,List.push_toArray,List.append_toArray,List.nil_append,List.cons_append]
 gi_wp2
 go_ret;exact ⟨rfl,rfl⟩
def VsIn (n₀:Nat) (W:World) (a:Option Addr) (vs:List Vn):Prop:=vs=[]∨∃b off,a=some ⟨b,off,none⟩∧b<n₀∧VsAt n₀ W b off vs.length vs
theorem VsIn.below {n₀:Nat} {A B:World} (h:Below n₀ A B) {a:Option Addr} {vs:List Vn}:VsIn n₀ A a vs→VsIn n₀ B a vs
 | .inl e=>.inl e
 | .inr ⟨b,off,e,hb,hc⟩=>.inr ⟨b,off,e,hb,fun j hj=>⟨(h.cell (p:=⟨b,off+j*3,none⟩) hb).trans (hc j hj).1,(h.cell (p:=⟨b,off+j*3+1,none⟩) hb).trans (hc j hj).2.1,(h.cell (p:=⟨b,off+j*3+2,none⟩) hb).trans (hc j hj).2.2⟩⟩
theorem zP6 (F:Fence) (n:Nat) (hf:F.fn 280) (hro:F.round=none) (hn:1≤n) (Bs n₀:Nat) (a:Option Addr) (cap:Nat) (vs:List Vn) (hreach:vs.length≤1000000) (w:World) (hBs:Bs<n₀) (hn₀:n₀≤w.heap.size)
 (hc:w.cell? ⟨Bs,0,none⟩=some (.slice a vs.length cap)) (hI:VsIn n₀ w a vs) :
 SeqStopsK F n Tryz.prog 280 #[.pointer (some ⟨Bs,0,none⟩)] (fun x:Nat×Vn=>#[Value.int .i64 (x.1:Int),vnV x.2]) (Below n₀) (fun ys=>ys=upto (bwd vs vs.length) vs.length)
  (fun pre=>∃k,k≤vs.length∧pre=upto (bwd vs vs.length) k) vs.length w:=fun l J Jx W hW _ _ hY h0=>by
 have hc':=(hW.cell (p:=⟨Bs,0,none⟩) (Nat.lt_of_lt_of_le hBs hn₀)).trans hc;rcases hI.below (hW.mono hn₀) with rfl | ⟨b,off,rfl,hb,hcs⟩
 ·exact (zMA F n hf hro l Bs a cap J W hc' h0).mono fun e W' ⟨he,hj⟩=>⟨he,.inl ⟨_,rfl,hj⟩⟩
 ·exact zS3 F n hf hro hn l Bs n₀ b off vs.length cap vs hreach hb J Jx hY W hc' hBs hcs h0
def atV (vs:List Vn) (n:Int):ByteArray×Bool:=match vs.reverse.find? (fun v=>decide ((v.n:Int)≤n)) with
 | some v=>(v.val,!v.gone)
 | none=>(⟨#[]⟩,false)
theorem zL9 (vs:List Vn) (k:Nat) (hk:k≤vs.length):(upto (bwd vs vs.length) k).map (·.2)=vs.reverse.take k:=by
 apply List.ext_getElem
 ·simp [upto,hk]
 ·intro i h1 h2;have hi:i<k:=by simpa [upto] using h1
  simp [upto,bwd,vAt,List.getElem_reverse];rw [List.getElem?_eq_getElem (by omega)];rfl
theorem zRo {vs:List Vn} {n:Int} (h:∀y∈upto (bwd vs vs.length) vs.length,¬((y.2.n:Int)≤n)):atV vs n=(⟨#[]⟩,false):=by
 have h2:=zL9 vs vs.length (Nat.le_refl _);rw [List.take_of_length_le (by simp)] at h2;unfold atV;rw [←h2,List.find?_map];rw [List.find?_eq_none.2 (fun y hy=>by simpa using h y hy)];rfl
theorem zRf {vs:List Vn} {n:Int} {k:Nat} {pre:List (Nat×Vn)} {y:Nat×Vn} (hk:k≤vs.length) (hp:pre++[y]=upto (bwd vs vs.length) k) (h:∀z∈pre,¬((z.2.n:Int)≤n)) (hy:(y.2.n:Int)≤n):atV vs n=(y.2.val,!y.2.gone):=by
 have h2:=zL9 vs k hk;unfold atV;rw [←List.take_append_drop k vs.reverse,←h2,←hp,List.map_append,List.append_assoc,List.find?_append,List.find?_map];rw [List.find?_eq_none.2 (fun z hz=>by simpa using h z hz)];simp [hy]
def NoLe (n:Int) (pre:List (Nat×Vn)):Prop:=∀y∈pre,¬((y.2.n:Int)≤n)
def zTf (n:Int) (pre:List (Nat×Vn)) (s:ByteArray) (g:Bool):Prop:=∃pre' y,pre=pre'++[y]∧NoLe n pre'∧(y.2.n:Int)≤n∧s=y.2.val∧g=!y.2.gone
theorem NoLe.snoc {n:Int} {pre:List (Nat×Vn)} {x:Nat×Vn} (h:NoLe n pre) (hx:¬((x.2.n:Int)≤n)):NoLe n (pre++[x]):=fun y hy=>by
 rcases List.mem_append.1 hy with hy | hy
 ·exact h y hy
 ·rw [List.mem_singleton.1 hy];exact hx
theorem zDX {β:Type} (D:Nat) (B:Nat) (o:Obj) (ho:o.isCells=true):OwnFrom D (fun (_:β) W=>W.heap[B]?=some o):=fun s W W' row hs hg hr=>by
 refine (hg.block B (Array.getElem?_eq_some_iff.1 hs).1 (fun e=>?_)).trans hs;obtain ⟨_,o',ho',hc⟩:=hr B e.symm;rw [hs] at ho';injection ho' with ho'
 subst ho';rw [ho] at hc;cases hc
theorem zTz (F:Fence) (m:Nat) (hfA:F.fn 199) (hfB:F.fn 243) (hfC:F.fn 280) (hro:F.round=none) (hm:3≤m)
 (a:Option Addr) (cap:Nat) (vs:List Vn) (n:Int) (hreach:vs.length≤1000000) (w:World) (hI:VsIn w.heap.size w a vs) :
 CallsIn F m Tryz.prog 199 #[.slice a vs.length cap,.int .i64 n] w fun e W'=>e=.returned (.tuple #[.string (atV vs n).1,.bool (atV vs n).2])∧Below w.heap.size w W':=by
 have h1:1≤m:=by omega
 refine callsIn_of_wp_marks Tryz.func199 rfl hfA ?_ hro;simp only [Tryz.ntmps199,List.size_toArray,List.length_cons,List.length_nil,Nat.reduceAdd,Nat.reduceSub,Array.replicate_succ,Array.replicate_zero,List.push_toArray,List.append_toArray,List.nil_append,List.cons_append]
 gi_wp2_with (gi_at_call 243;refine (zNO F (m-1) hfB hro _ _ _ _).mono ?_;rintro e w' ⟨rfl,rfl⟩)
 obtain ⟨W0,hW0⟩:∃W0,((((w.alloc (Obj.cells #[Value.int IntKind.i64 n] 3)).alloc (Obj.cells #[Value.string ⟨#[]⟩] 9)).alloc (Obj.cells #[Value.bool false] 4)).alloc (Obj.cells #[Value.slice a vs.length cap] 237))=W0:=⟨_,rfl⟩
 have hB0:Below w.heap.size w W0:=by
  rw [←hW0];exact ((((Below.refl _ w).alloc (Nat.le_refl _) _).alloc (by simp) _).alloc (by simp;omega) _).alloc (by simp;omega) _
 have hs0:W0.heap.size=w.heap.size+4:=by rw [←hW0];simp
 have b0:W0.heap[w.heap.size]?=some (.cells #[.int .i64 n] 3 (0,0)):=by
  rw [←hW0];exact ((Boxed.new w 3 (.int .i64 n)).alloc _).alloc _ |>.alloc _
 have b1:W0.heap[w.heap.size+1]?=some (.cells #[.string ⟨#[]⟩] 9 (0,0)):=by
  rw [←hW0];have:=Boxed.new (w.alloc (Obj.cells #[Value.int IntKind.i64 n] 3)) 9 (.string ⟨#[]⟩);rw [World.size_alloc] at this;exact (this.alloc _).alloc _
 have b2:W0.heap[w.heap.size+1+1]?=some (.cells #[.bool false] 4 (0,0)):=by
  rw [←hW0];have:=Boxed.new ((w.alloc (Obj.cells #[Value.int IntKind.i64 n] 3)).alloc (Obj.cells #[Value.string ⟨#[]⟩] 9)) 4 (.bool false);rw [World.size_alloc,World.size_alloc] at this;exact this.alloc _
 have b3:W0.heap[w.heap.size+1+1+1]?=some (.cells #[.slice a vs.length cap] 237 (0,0)):=by
  rw [←hW0];have:=Boxed.new (((w.alloc (Obj.cells #[Value.int IntKind.i64 n] 3)).alloc (Obj.cells #[Value.string ⟨#[]⟩] 9)).alloc (Obj.cells #[Value.bool false] 4)) 237 (.slice a vs.length cap);rw [World.size_alloc,World.size_alloc,World.size_alloc] at this;exact this
 rw [hW0];have hI0:VsIn W0.heap.size W0 a vs:=by
  rcases hI.below hB0 with h | ⟨b,off,e,hb,hc⟩
  ·exact .inl h
  ·exact .inr ⟨b,off,e,by omega,hc⟩
 refine wpIn_rangeFunc_ownH hro h1 (gf:=280) (lb:=#[.pointer (some ⟨w.heap.size+1+1+1,0,none⟩)]) rfl hfC (enters_of Tryz.func280 (by kernel_rfl) rfl)
  (zP6 F (m-1) hfC hro (by omega) (w.heap.size+1+1+1) W0.heap.size a cap vs hreach W0 (by omega) (Nat.le_refl _) (Boxed.cell b3) hI0) belowK_t (belowK_b (Nat.le_refl _)) (Below.refl _ _) (fun _=>rfl)
  (fun pre W=>NoLe n pre∧W.heap[w.heap.size]?=some (.cells #[.int .i64 n] 3 (0,0))∧W.heap[w.heap.size+1]?=some (.cells #[.string ⟨#[]⟩] 9 (0,0))∧W.heap[w.heap.size+1+1]?=some (.cells #[.bool false] 4 (0,0))∧Below w.heap.size w W∧Below W0.heap.size W0 W)
  (fun c pre W=>(c=.ret∧∃s g,zTf n pre s g∧W.heap[w.heap.size+1]?=some (.cells #[.string s] 9 (0,0))∧W.heap[w.heap.size+1+1]?=some (.cells #[.bool g] 4 (0,0)))∧Below w.heap.size w W)
  (OwnFrom.and (ownFrom_pure _ _) (OwnFrom.and (zDX _ _ _ rfl) (OwnFrom.and (zDX _ _ _ rfl) (OwnFrom.and (zDX _ _ _ rfl) (OwnFrom.and (ownFrom_below (Nat.le_refl _) (by omega)) (ownFrom_below (Nat.le_refl _) (Nat.le_refl _)))))))
  (fun c=>OwnFrom.and (fun s X Y row hs hg hr=>by
   obtain ⟨h1,sv,gv,h2,h5,h6⟩:=hs;exact ⟨h1,sv,gv,h2,zDX (β:=Unit) W0.heap.size _ _ rfl () X Y row h5 hg hr,zDX (β:=Unit) W0.heap.size _ _ rfl () X Y row h6 hg hr⟩) (ownFrom_below (Nat.le_refl _) (by omega)))
  ⟨(fun y hy=>by cases hy),b0,b1,b2,hB0,Below.refl _ _⟩
  (fun x a' W=>∃Bx,W0.heap.size≤Bx∧W.heap[Bx]?=some (.cells #[.int .i64 x.2.n,.string x.2.val,.bool x.2.gone] 239 (0,0))∧
   a'={ tmps:=#[.slice a vs.length cap,.int .i64 n,undef,.pointer (some ⟨w.heap.size,0,none⟩),.pointer (some ⟨w.heap.size+1,0,none⟩),.pointer (some ⟨w.heap.size+1+1,0,none⟩),undef,.pointer (some ⟨Bx,0,none⟩),.slice a vs.length cap,
    .func (.func 280) #[] #[.pointer (some ⟨w.heap.size+1+1+1,0,none⟩)],.int .i64 (x.1:Int),vnV x.2,undef,undef,undef,undef,undef,undef,undef,undef,undef],defers:=[] })
  (fun x a' s X Y row hs hg hr=>by
   obtain ⟨Bx,h1,h2,h3⟩:=hs;exact ⟨Bx,h1,zDX (β:=Unit) W0.heap.size _ _ rfl () X Y row h2 hg hr,h3⟩)
  ?assign ?body ?done ?stop
 case assign=>
  rintro l pre ⟨ix,v⟩ W K ⟨hp,c0,c1,c2,hB,hE⟩ hK;have hE1:=hE.size;unfold vnV at *;dsimp only at *
  gi_wp2
  refine hK _ _ ((KeepsOthers.alloc _ _).from _) ((Below.refl _ W).alloc hE1 _) ?_ ⟨W.heap.size,hE1,World.alloc_heap_new W _,rfl⟩;exact ⟨hp,(Below.heap_alloc _ _ _ (Array.getElem?_eq_some_iff.1 c0).1).trans c0,(Below.heap_alloc _ _ _ (Array.getElem?_eq_some_iff.1 c1).1).trans c1,(Below.heap_alloc _ _ _ (Array.getElem?_eq_some_iff.1 c2).1).trans c2,hB.alloc hB.size _,hE.alloc hE1 _⟩
 case body=>
  rintro l pre ⟨ix,v⟩ a' W hl ⟨r,hr⟩ ⟨hp,c0,c1,c2,hB,hE⟩ ⟨Bx,hBx,bX,rfl⟩ hlt;unfold vnV at *;dsimp only at *;have d0:=Boxed.cell c0;have d1:=Boxed.cell c1;have d2:=Boxed.cell c2;have f1:=Boxed.frozen c1;have f2:=Boxed.frozen c2;have x0:W.cell? ⟨Bx,0,none⟩=some (.int .i64 v.n):=by rw [cell_of_row W Bx 0 _ 239 (0,0) bX];rfl
  have x1:W.cell? ⟨Bx,1,none⟩=some (.string v.val):=by rw [cell_of_row W Bx 1 _ 239 (0,0) bX];rfl
  have x2:W.cell? ⟨Bx,2,none⟩=some (.bool v.gone):=by rw [cell_of_row W Bx 2 _ 239 (0,0) bX];rfl
  gi_wp2
  ·gi_region
   all_goals gi_wp2;all_goals exact ⟨(((KeepsOthers.setCell _ _ _).trans (KeepsOthers.setCell _ _ _)).trans (KeepsOthers.drew _)).from _,
    ⟨rfl,_,_,⟨pre,(ix,v),rfl,hp,(by dsimp only;assumption),rfl,rfl⟩,Boxed.other (Boxed.set (.string v.val) c1) (by omega) _,Boxed.set (.bool !v.gone) (Boxed.other c2 (by omega) _)⟩,
    ((hB.setCell (p:=⟨w.heap.size+1,0,none⟩) (by dsimp only;omega) _).setCell (p:=⟨w.heap.size+1+1,0,none⟩) (by dsimp only;omega) _).drew⟩
  ·exact ⟨(KeepsOthers.refl _).from _,Below.refl _ _,hp.snoc (by dsimp only;omega),c0,c1,c2,hB,hE⟩
 case done=>
  rintro D ys W hD rfl ⟨hp,c0,c1,c2,hB,hE⟩ hK;have f1:=Boxed.frozen c1;have f2:=Boxed.frozen c2;have d1:=Boxed.cell c1;have d2:=Boxed.cell c2;have HA:=Lib.hid (zRo hp)
  gi_wp2
  have e1:Boxed ((W.setCell ⟨w.heap.size+1,0,none⟩ (.string ⟨#[]⟩)).setCell ⟨w.heap.size+1+1,0,none⟩ (.bool false)) (w.heap.size+1) 9 (.string ⟨#[]⟩):=Boxed.other (Boxed.set (.string ⟨#[]⟩) c1) (by omega) _;have e2:Boxed ((W.setCell ⟨w.heap.size+1,0,none⟩ (.string ⟨#[]⟩)).setCell ⟨w.heap.size+1+1,0,none⟩ (.bool false)) (w.heap.size+1+1) 4 (.bool false):=Boxed.set (.bool false) (Boxed.other c2 (by omega) _);have hK':=((KeepsOthers.setCell W ⟨w.heap.size+1,0,none⟩ (.string ⟨#[]⟩)).trans (KeepsOthers.setCell _ ⟨w.heap.size+1+1,0,none⟩ (.bool false))).same D _ hK rfl;have hB':=(hB.setCell (p:=⟨w.heap.size+1,0,none⟩) (by dsimp only;omega) (.string ⟨#[]⟩)).setCell (p:=⟨w.heap.size+1+1,0,none⟩) (by dsimp only;omega) (.bool false);generalize (W.setCell ⟨w.heap.size+1,0,none⟩ (.string ⟨#[]⟩)).setCell ⟨w.heap.size+1+1,0,none⟩ (.bool false)=W1 at *;have r1:=cell_kept (Boxed.cell e1) (grownBy_putObj' W1 D (.deferred none)) (fun r e=>by cases e;exact ⟨_,hK',rfl⟩);have r2:=cell_kept (Boxed.cell e2) (grownBy_putObj' W1 D (.deferred none)) (fun r e=>by cases e;exact ⟨_,hK',rfl⟩);refine ⟨by simp,.inl ⟨_,_,rfl,run_takeDeferred hK',?_⟩⟩;refine ⟨.tuple #[.string ⟨#[]⟩,.bool false],?_,by rw [HA.out],hB'.trans (belowK_b (w:=w) (Nat.le_refl _) W1 D _ _ (by omega) hK' rfl rfl)⟩;simp [results,Tryz.f199,go_sem,r1,r2]
 case stop=>
  rintro D c pre W hD ⟨k,hk,rfl⟩ ⟨⟨rfl,sv,gv,⟨pre',y,hpre,hz,hy,rfl,rfl⟩,c1,c2⟩,hB⟩ hK;have d1:=Boxed.cell c1;have d2:=Boxed.cell c2;have HA:=Lib.hid (zRf hk hpre.symm hz hy);clear hpre hz hy
  gi_wp2
  have r1:=cell_kept d1 (grownBy_putObj' W D (.deferred none)) (fun r e=>by cases e;exact ⟨_,hK,rfl⟩);have r2:=cell_kept d2 (grownBy_putObj' W D (.deferred none)) (fun r e=>by cases e;exact ⟨_,hK,rfl⟩);refine ⟨by simp,.inl ⟨_,_,rfl,run_takeDeferred hK,?_⟩⟩;refine ⟨.tuple #[.string y.2.val,.bool !y.2.gone],?_,by rw [HA.out],hB.trans (belowK_b (w:=w) (Nat.le_refl _) W D _ _ (by omega) hK rfl rfl)⟩;simp [results,Tryz.f199,go_sem,r1,r2]
theorem zPn (a:Option Addr) (cap:Nat) (vs:List Vn) (n:Int) (hreach:vs.length≤1000000) (w:World) (hI:ValsAt w a (vs.flatMap verC)) :
 Calls Tryz.prog 199 #[.slice a vs.length cap,.int .i64 n] w fun e W'=>e=.returned (.tuple #[.string (atV vs n).1,.bool (atV vs n).2])∧Ext w W':=by
 have h:VsIn w.heap.size w a vs:=by
  rcases hI with h | ⟨b,off,rfl,hc⟩
  ·left;cases vs with
   | nil=>rfl
   | cons x l=>simp [verC] at h
  ·cases hvs:vs with
   | nil=>exact .inl rfl
   | cons x l=>
    have hl:(vs.flatMap verC).length=vs.length*3:=by
     clear hc hvs hreach
     induction vs with
     | nil=>rfl
     | cons x l ih=>simp [List.flatMap_cons,ih,verC];omega
    have hg:∀j (hj:j<vs.length) c v,(verC vs[j])[c]?=some v→w.cell? ⟨b,off+(j*3+c),none⟩=some v:=fun j hj c v hv=>by
     have h1:(vs.flatMap verC)[j*3+c]?=some v:=by
      clear hc hl hreach hvs
      revert j
      induction vs with
      | nil=>intro j hj;simp at hj
      | cons x l ih=>
       intro j hj hv;cases j with
       | zero=>
        simp only [List.flatMap_cons,Nat.zero_mul,Nat.zero_add];have hv':(verC x)[c]?=some v:=hv;rw [List.getElem?_append_left (List.getElem?_eq_some_iff.1 hv').1];exact hv'
       | succ j=>
        simp only [List.flatMap_cons];rw [List.getElem?_append_right (by simp [verC];omega)];have:(j+1)*3+c-(verC x).length=j*3+c:=by simp [verC];omega
        rw [this];exact ih j (by simpa using hj) hv
     obtain ⟨h2,h3⟩:=List.getElem?_eq_some_iff.1 h1;have h4:=hc _ h2;rw [h3] at h4;exact h4
    rw [←hvs];have hpos:0<vs.length:=by rw [hvs];simp
    refine .inr ⟨b,off,rfl,?_,fun j hj=>?_⟩
    ·have:=hg 0 hpos 0 _ rfl;exact Nat.lt_of_not_le fun hle=>by
      unfold World.cell? at this;rw [Array.getElem?_eq_none hle] at this;cases this
    ·have e:vAt vs j=vs[j]:=by unfold vAt;rw [List.getElem?_eq_getElem hj];rfl
     rw [e];exact ⟨hg j hj 0 _ rfl,hg j hj 1 _ rfl,hg j hj 2 _ rfl⟩
 exact callsIn_wide.1 ((zTz _ 3 trivial trivial trivial rfl (by omega) a cap vs n hreach w h).mono fun e W' h=>h)
