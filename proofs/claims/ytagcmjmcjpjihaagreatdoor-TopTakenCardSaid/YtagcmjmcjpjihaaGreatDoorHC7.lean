/- Texts Rf of this claim, laid together. -/
import Derived.Test.YtagcmjmcjpjihaaGreatDoorHC3
import Derived.RangeFuncNested
set_option linter.unusedVariables false
set_option linter.unusedSimpArgs false
set_option linter.unnecessarySimpa false
namespace Go.Proofs.YtagcmjmcjpjihaaGreatDoor
open Go.RowKit
def Blk (l:Nat) (o:Obj):Rs where
 holds w M _:=w.heap[l]?=some o∧M l
 facts w:=w.heap[l]?=some o
 mono:=fun ⟨h1,h2⟩ hM _=>⟨h1,hM _ h2⟩
 keep:=fun ⟨h1,h2⟩ hk=>⟨by rw [hk l (.inl h2) (Array.getElem?_eq_some_iff.1 h1).1];exact h1,h2⟩
 tells:=fun h=>h.1
section
variable {S:Nat→Prop} {W w:World} {L:List Rs} {P:Program} {l D m n:Nat} {o:Obj}
theorem Own.newBlk (h:Own S W w L) (o:Obj):Own S W (w.alloc o) (Blk w.heap.size o::L):=
 h.new (M':=fun b=>b=w.heap.size) ((Ext.refl w).alloc _) (fun b hb=>by rw [hb];simp) ⟨World.alloc_heap_new w _,rfl⟩
theorem Chg.putObj (w:World) (l:Nat) (o:Obj):Chg (fun k=>k=l) w (w.putObj l o):=
 ⟨rfl,rfl,rfl,by simp,fun k _ hs=>World.putObj_heap_other hs⟩
theorem Own.putBlk (h:Own S W w (Blk l o::L)) (o':Obj):Own S W (w.putObj l o') (Blk l o'::L):=by
 obtain ⟨M,Z,⟨h1,h2⟩,h3,_,k⟩:=h.turn1;exact k _ _ M ((Chg.putObj w l o').mono fun k hk=>by rw [show k=l from hk];exact h2) (fun b h=>.inl h) (fun b hb=>by simpa using (h3 b hb).1) ⟨World.putObj_heap_same (Array.getElem?_eq_some_iff.1 h1).1,h2⟩
def zGg (P:Program) (fn:Func) (R:Ending→World→Prop):Exit→Act→World→Prop
 | .ret,a,w=>∃D,a.defers=[{ target:=.collected D,args:=#[] }]∧w.heap[D]?=some (.deferred (some []))∧
  ∃v,(results fn a.tmps).run P (w.putObj D (.deferred none))=.ok v (w.putObj D (.deferred none))∧R (.returned v) (w.putObj D (.deferred none))
 | _,_,_=>False
theorem zMQ {P:Program} {fn:Func} {R:Ending→World→Prop}:∀(e:Exit) (a:Act) (w:World),zGg P fn R e a w→bodyPostM Fence.wide 0 P fn R e a w:=by
 intro e a w h;cases e with
 | ret=>
  obtain ⟨D,h1,h2,v,h3,h4⟩:=h;show LeavesInM Fence.wide 0 P fn a.tmps R a.defers .returning w;rw [h1];exact ⟨by simp,.inl ⟨_,_,rfl,run_takeDeferred h2,⟨v,h3,h4⟩⟩⟩
 | normal=>exact h.elim
 | exit id=>exact h.elim
 | goto l=>exact h.elim
 | panic c=>exact h.elim
 | outgrown=>exact h.elim
theorem zJj {f:FuncId} {fn:Func} {c:Code} {args:Array Value} {R:Ending→World→Prop} (hf:P.funcs[f]?=some fn) (hb:fn.body=some c)
 (h:c.wp P (zGg P fn R) { tmps:=args++Array.replicate (fn.ntmps-args.size) undef,defers:=[] } w):Calls P f args w R:=
 callsIn_wide.1 (callsIn_of_wp_marks (F:=Fence.wide) (n:=0) hf hb trivial (Go.wpIn_mono (wpIn_wide.2 h) zMQ) rfl)
theorem zGo {fn:Func} {R:Ending→World→Prop} {a:Act} (hd:a.defers=[{ target:=.collected D,args:=#[] }]) (hO:Own S W w (Blk D (.deferred (some []))::L))
 (h:∀w',Own S W w' L→∃v,(results fn a.tmps).run P w'=.ok v w'∧R (.returned v) w'):zGg P fn R .ret a w:=
 ⟨D,hd,hO.facts.1,h _ (hO.putBlk _).tail⟩
theorem zEd {fn:Func} {R:Ending→World→Prop} {a:Act} {x:Exit} {p:Addr} {v:Value} (hO:Own S W (w.setCell p v) L) (k:∀w',Own S W w' L→zGg P fn R x a w'):zGg P fn R x a (w.setCell p v):=k _ hO
def recO (fn:FuncId) (tmps:Array Value) (ps:Array Tmp) (assign body:Code) (D:Nat) (st:LoopState) (pe:Option Code):Obj:=
 .loop { state:=st,pending:=pe,fn,tmps,params:=ps,assign,body,defers:=D }
def zM4 (P:Program) (Q:Exit→Act→World→Prop) (a:Act) (w:World):Option Code→Prop
 | none=>Q .normal a w
 | some c=>c.wp P Q a w
theorem zH9 {g:Operand} {ps:Array Tmp} {assign body:Code} {Q:Exit→Act→World→Prop} {a:Act} {gf:Nat} {lb:Array Value} (hO:Own S W w L)
 (hg:a.eval g=.func (.func gf) #[] lb) (eg:∀args w,(callFunc gf args).run P w=.ok (.enter gf args) w)
 (h:∀(fn:FuncId) (l D:Nat) (w₂:World) (rec:LoopState→Option Code→Obj),rec=recO fn a.tmps ps assign body D→Own S W w₂ (Blk l (rec .ready none)::Blk D (.deferred (some []))::L)→
  Calls P gf (#[.func (.yield l) #[] #[]]++lb) w₂ fun e w₃=>∃v,e=.returned v∧∃st jump X,st≠.busy∧Own S W w₃ (Blk l (rec st jump)::X)∧
   ∀w₄,Own S W w₄ X→zM4 P Q { a with defers:={ target:=.collected D,args:=#[] }::a.defers } w₄ jump) :
 (Code.rangeFunc g ps assign body).wp P Q a w:=by
 refine wpIn_wide.1 (wpIn_rangeFunc (F:=Fence.wide) (n:=0) ?_);intro fn _;have h1:=(hO.newBlk (.deferred (some []))).newBlk (recO fn a.tmps ps assign body w.heap.size .ready none);have hs:(w.alloc (.deferred (some []))).heap.size=w.heap.size+1:=World.size_alloc ..;rw [hs] at h1;have he:=run_enterLoop_outer (P:=P) (w:=w) fn a.tmps ps assign body;rw [show (Obj.loop { state:=.ready,pending:=none,fn,tmps:=a.tmps,params:=ps,assign,body,defers:=w.heap.size })=recO fn a.tmps ps assign body w.heap.size .ready none from rfl] at he;have hc:=h fn _ _ _ _ rfl h1;generalize (w.alloc (.deferred (some []))).alloc (recO fn a.tmps ps assign body w.heap.size .ready none)=w1 at *;have hr:(resolve a.eval (rangeCall g (w.heap.size+1)) 0).run P w1=.ok { target:=.fn (.func gf) lb,args:=#[.func (.yield (w.heap.size+1)) #[] #[]] } w1:=by
  simp only [resolve,hg];simp [go_sem]
 have hi:(invoke (.fn (.func gf) lb) #[.func (.yield (w.heap.size+1)) #[] #[]]).run P w1=.ok (.enter gf (#[.func (.yield (w.heap.size+1)) #[] #[]]++lb)) w1:=by
  simp [invoke,go_sem,eg]
 refine ⟨w.heap.size+1,_,w1,_,w1,gf,_,w1,he,hr,fun _ _=>trivial,hi,fun h=>?_,callsIn_wide.2 (hc.mono ?_)⟩
 ·simp [Fence.wide] at h
 ·clear he hr hi hc;rintro e w₃ ⟨v,rfl,st,jump,X,hst,h2,h3⟩;have h4:=h3 _ (h2.putBlk (.loop { state:=.exhausted,pending:=jump,fn,tmps:=a.tmps,params:=ps,assign,body,defers:=w.heap.size })).tail;have h5:=run_endLoop (P:=P) h2.facts.1 hst;refine ⟨jump,_,h5,?_⟩;cases jump with
  | none=>exact h4
  | some c=>exact wpIn_wide.2 h4
def zNI (S:Nat→Prop) (W:World) (l:Nat) (rec:LoopState→Option Code→Obj) (R:Ending→World→Prop):Exit→Act→World→Prop
 | .normal,_,w=>∃X,Own S W w (Blk l (rec .busy none)::X)∧∀w',Own S W w' (Blk l (rec .ready none)::X)→R (.returned (.bool true)) w'
 | .ret,_,w=>∃X,Own S W w (Blk l (rec .busy none)::X)∧∀w',Own S W w' (Blk l (rec .done (some .ret))::X)→R (.returned (.bool false)) w'
 | _,_,_=>False
theorem zQF {fn:FuncId} {tmps args:Array Value} {ps:Array Tmp} {assign body:Code} {R:Ending→World→Prop} {a₁:Act} {rec:LoopState→Option Code→Obj} (hrec:rec=recO fn tmps ps assign body D) (hO:Own S W w (Blk l (rec .ready none)::L)) (hps:args.size=ps.size)
 (hassign:∀K:Act→World→Prop,K a₁ w→assign.wpIn (Fence.wide.inRound l) m P (Exit.then K (fun _ _ _=>False)) { tmps:=(ps.zip args).foldl (fun t (p,v)=>t.setIfInBounds p v) tmps,defers:=[] } w)
 (hbody:∀w₂,Own S W w₂ (Blk l (rec .busy none)::L)→body.wpIn (Fence.wide.inRound l) m P (zNI S W l rec R) a₁ w₂) :
 YieldAt Fence.wide m P l args w R:=by
 subst hrec;have hy:=run_yield (P:=P) (args:=args) hO.facts.1 hps;refine ⟨fn,_,assign,body,hy,roundIn_of_wpIn trivial (hassign _ ?_)⟩;refine ⟨_,run_beginRound hO.facts.1 rfl,Go.wpIn_mono (hbody _ (hO.putBlk _)) ?_⟩;rintro e a3 w3 hp;cases e with
 | normal=>
  obtain ⟨X,h1,h2⟩:=hp;exact ⟨_,_,run_endRound none h1.facts.1,h2 _ (h1.putBlk _)⟩
 | ret=>
  obtain ⟨X,h1,h2⟩:=hp;exact ⟨_,_,run_endRound (some .ret) h1.facts.1,h2 _ (h1.putBlk _)⟩
 | exit id=>exact hp.elim
 | goto t=>exact hp.elim
 | panic ch=>exact hp.elim
 | outgrown=>exact hp.elim
def zJe (l:List Oper):Bool:=l.all fun o=>match o.op with | .defer _=>false | _=>true
theorem zPK {l:List Oper} (h:zJe l=true) {o:Oper} (ho:o∈l):∀c,o.op≠.defer c:=fun c he=>by
 have:=List.all_eq_true.1 h o ho;rw [he] at this;cases this
theorem zF6 {ops:Array Oper} {Q:Exit→Act→World→Prop} (hQ:∀a w,¬Q .outgrown a w) (hd:zJe ops.toList=true):∀(l:List Nat) (a:Act) (w:World),wpOps P ops Q l a w→wpOpsIn (Fence.wide.inRound m) n P ops Q l a w
 | [],_,_,h=>h
 | i::l,a,w,h=>by
  have ih:=zF6 hQ hd l;have hN:¬LetsOut Q:=fun ⟨a,w,hq⟩=>hQ a w hq
  unfold wpOps at h;unfold wpOpsIn;cases ho:ops[i]? with
  | none=>
   rw [ho] at h;exact ih _ _ h
  | some o=>
   rw [ho] at h;dsimp only at h ⊢;have hod:=zPK hd (show o∈ops.toList by rw [Array.mem_toList_iff];exact Array.mem_of_getElem? ho);by_cases hw:Region.wanted o (yielded ops a.tmps)=true
   ·rw [if_pos hw] at h ⊢;have h:=h.resolve_right (fun h=>hN h.2);refine ⟨fun _ _=>trivial,?_⟩;unfold Oper.wp at h;rw [show (Fence.wide.inRound m).round=some m from rfl,Oper.semAt_some m _ o hod];generalize (execOp a.eval o).run P w=r at *;unfold Oper.upon at h;unfold Oper.uponIn;split at h
    ·exact ih _ _ h
    ·exact ih _ _ h
    ·exact ih _ _ h
    ·refine ⟨fun h=>by simp [Fence.wide,Fence.inRound] at h,?_⟩;refine CallsIn.inRound m (callsIn_wide.2 (h.mono ?_));intro e w' h';cases e with
     | returned v=>exact ih _ _ h'
     | panicked c=>exact h'
     | outgrown=>exact h'
    ·refine ⟨fun h=>by simp [Fence.wide,Fence.inRound] at h,?_⟩;intro c cs hr;obtain ⟨v,w',h1,h2⟩:=h c cs;exact ⟨v,w',ih _ _ h1,stepsIn_wide.2 h2⟩
    ·exact h
    ·exact h.elim
   ·rw [if_neg hw] at h ⊢;exact ⟨fun _ _=>trivial,ih _ _ h⟩
theorem zJE {id:Nat} {l:List Oper} {Q:Exit→Act→World→Prop} {a:Act} (hQ0:∀a w,¬Q .outgrown a w) (hd:zJe l=true) (I:World→Prop) (hIx:∀w w',I w→Ext w w'→I w') (hI:I w) (ord:List (Nat×Nat)) (hm:P.follows .mixedOrders=true)
 (hB:zGL .any l.toArray ord=true) (hlen:ord.length=l.length) (hQ:∀c a d v w,Q (.panic c) (a.put d v) w→Q (.panic c) a w)
 (h:∀w',Ext w w'→zA4 P l.toArray I Q ord a w'):(Code.region id l.toArray true).wpIn (Fence.wide.inRound m) n P Q a w:=by
 refine wpIn_region_draw fun t=>zF6 hQ0 hd _ _ _ ?_
 simp only [Region.schedule,hm,Bool.true_or,if_true];refine wpAny_sound _ t _ a _ ?_;simp only [zGL,Bool.and_eq_true] at hB;refine zDk (mk:=mkOf ord) hIx _ _ _ _ (hIx _ _ hI (Ext.drew_self w)) ?_;have:=zB4 (md:=.any) hIx hB.1 hQ ord (Array.replicate l.toArray.size false) a w.drew (hIx _ _ hI (Ext.drew_self w))
  (fun k ok _ hl=>by rw [show (Array.replicate l.toArray.size false).getD k false=false by simp [Array.getD]] at hl;cases hl) hB.2 (h _ (Ext.drew_self w))
 rw [hlen] at this;simpa using this
end
