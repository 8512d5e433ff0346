/- Texts Fw, Sep, Own, Reg of this claim, laid together. -/
import Derived.WalkKit
set_option linter.unusedVariables false
set_option linter.unusedSimpArgs false
namespace Go.Proofs.YtagcmjmcjpjihaaGreatDoor
open Go.RowKit
def Ext (w w':World):Prop:=Below w.heap.size w w'
theorem Ext.refl (w:World):Ext w w:=Below.refl _ _
theorem Ext.size {w w':World} (h:Ext w w'):w.heap.size≤w'.heap.size:=Below.size h
theorem Ext.trans {a b c:World} (h:Ext a b) (k:Ext b c):Ext a c:=Below.trans h (Below.mono k h.size)
theorem Ext.drew {a w:World} (h:Ext a w):Ext a w.drew:=Below.drew h
theorem Ext.of_drew {a w:World} (h:Ext a w):Ext a.drew w:=by obtain ⟨h1,h2,h3,h4,h5⟩:=h;exact ⟨h1,h2,h3,h4,h5⟩
theorem Ext.drew_self (w:World):Ext w w.drew:=Below.drew (Below.refl _ _)
theorem Ext.alloc {a w:World} (h:Ext a w) (o:Obj):Ext a (w.alloc o):=Below.alloc h h.size o
theorem Ext.block {w w':World} (h:Ext w w'):∀b,b<w.heap.size→w'.heap[b]?=w.heap[b]?:=fun b hb=>Below.block h b hb
theorem Ext.some {w w':World} (h:Ext w w') {a:Addr} {v:Value} (hc:w.cell? a=some v):w'.cell? a=some v:=by
 have hb:a.block<w.heap.size:=by
  unfold World.cell? at hc;split at hc
  ·rename_i he;exact (Array.getElem?_eq_some_iff.1 he).1
  ·cases hc
 rw [Below.cell h hb];exact hc
theorem zRu (m:Nat):m=0∨m=1∨m=2∨m=3∨∃n,m=n+4:=by
 match m with
 | 0=>exact .inl rfl
 | 1=>exact .inr (.inl rfl)
 | 2=>exact .inr (.inr (.inl rfl))
 | 3=>exact .inr (.inr (.inr (.inl rfl)))
 | n+4=>exact .inr (.inr (.inr (.inr ⟨n,rfl⟩)))
section
variable {P:Program} {ops:Array Oper} {md:Region.Mode}
def zBe (P:Program) (o:Oper) (a:Act) (w:World) (next:Act→Prop):Result Next→Prop
 | .ok (.value v) w'=>Ext w w'∧next (a.put o.dst v)
 | .ok .skip w'=>Ext w w'∧next (a.put o.dst undef)
 | .ok (.enter f args) w'=>Calls P f args w' (fun e w''=>∃v,e=.returned v∧Ext w w''∧next (a.put o.dst v))
 | .ok (.row row args) w'=>Rows P row args w' (fun v w''=>Ext w w''∧next (a.put o.dst v))
 | _=>False
def zC4 (P:Program) (o:Oper) (a:Act) (w:World) (next:Act→Prop):Prop:=zBe P o a w next ((execOp a.eval o).run P w)
def zCC (P:Program) (ops:Array Oper) (o:Oper) (a:Act) (w:World) (next:Act→Prop):Prop:=
 if Region.wanted o (yielded ops a.tmps) then zC4 P o a w next else next (a.put o.dst undef)
def Gives (P:Program) (ops:Array Oper) (o:Oper) (a:Act) (w:World) (v:Value):Prop:=
 ∀w',Ext w w'→zCC P ops o a w' (fun a'=>a'=a.put o.dst v)
theorem zMw {o:Oper} {a:Act} {w:World} {K K':Act→Prop} (h:∀a,K a→K' a) (hh:zC4 P o a w K):zC4 P o a w K':=by
 unfold zC4 at *;generalize (execOp a.eval o).run P w=r at *;cases r with
 | ok n w'=>
  cases n<;>simp only [zBe] at hh ⊢
  case value v=>exact ⟨hh.1,h _ hh.2⟩
  case skip=>exact ⟨hh.1,h _ hh.2⟩
  case enter f args=>exact hh.mono fun e w'' ⟨v,he,hx,hn⟩=>⟨v,he,hx,h _ hn⟩
  case row f args=>exact hh.mono fun v w'' ⟨hx,hn⟩=>⟨hx,h _ hn⟩
 | halt x w'=>simp only [zBe] at hh
theorem zGH {o:Oper} {a:Act} {w:World} {K K':Act→Prop} (h:∀a,K a→K' a) (hh:zCC P ops o a w K):zCC P ops o a w K':=by
 unfold zCC at *;split at hh
 ·rename_i hw;rw [if_pos hw];exact zMw h hh
 ·rename_i hw;rw [if_neg hw];exact h _ hh
theorem zHV {oi:Oper} {oj:Oper} {v:Value} (hap:oi.apart ops oj=true) (hsj:∀cs b,oj.op≠.select cs b) {a:Act} {w:World} {u:Value}
 (h:zCC P ops oj (a.put oi.dst v) w (fun a'=>a'=(a.put oi.dst v).put oj.dst u)) :
 zCC P ops oj a w (fun a'=>∃u',a'=a.put oj.dst u'∧(a.put oi.dst v).put oj.dst u'=(a.put oi.dst v).put oj.dst u):=by
 obtain ⟨h1,h2,h3⟩:=Oper.apart_spec hap;unfold zCC at *;rw [wanted_put oj a oi.dst v h1] at h;split
 ·rename_i hw;simp only [hw,if_true] at h;unfold zC4 at *;rw [execOp_put oj hsj a oi.dst v h1] at h;generalize (execOp a.eval oj).run P w=r at *;cases r with
  | ok n w'=>
   cases n<;>simp only [zBe] at h ⊢
   case value x=>exact ⟨h.1,x,rfl,h.2⟩
   case skip=>exact ⟨h.1,undef,rfl,h.2⟩
   case enter f args=>exact h.mono fun e w'' ⟨x,he,hx,hn⟩=>⟨x,he,hx,x,rfl,hn⟩
   case row f args=>exact h.mono fun x w'' ⟨hx,hn⟩=>⟨hx,x,rfl,hn⟩
  | halt x w'=>simp only [zBe] at h
 ·rename_i hw;simp only [hw] at h;exact ⟨undef,rfl,h⟩
theorem Gives.of_same {o:Oper} {a a':Act} {w:World} {v:Value} (h:Gives P ops o a w v) (he:execOp a'.eval o=execOp a.eval o)
 (hw:Region.wanted o (yielded ops a'.tmps)=Region.wanted o (yielded ops a.tmps))
 (hp:∀x,a.put o.dst x=a.put o.dst v→a'.put o.dst x=a'.put o.dst v):Gives P ops o a' w v:=by
 intro w' hx;have:=h w' hx;unfold zCC at *;rw [hw];split
 ·rename_i hw';simp only [hw',if_true] at this;unfold zC4 at *;rw [he];generalize (execOp a.eval o).run P w'=r at *;cases r with
  | ok n w'=>
   cases n<;>simp only [zBe] at this ⊢
   case value x=>exact ⟨this.1,hp _ this.2⟩
   case skip=>exact ⟨this.1,hp _ this.2⟩
   case enter f args=>exact this.mono fun e w'' ⟨x,he,hx,hn⟩=>⟨x,he,hx,hp _ hn⟩
   case row f args=>exact this.mono fun x w'' ⟨hx,hn⟩=>⟨hx,hp _ hn⟩
  | halt x w'=>simp only [zBe] at this
 ·rename_i hw';simp only [hw'] at this;exact hp _ this
theorem Gives.ext {o:Oper} {a:Act} {w w':World} {v:Value} (h:Gives P ops o a w v) (hx:Ext w w'):Gives P ops o a w' v:=
 fun w2 h2=>h w2 (hx.trans h2)
theorem zMR {a:Act} {d:Option Tmp} {x v:Value} (e:Option Tmp) (u:Value) (hne:∀t,d=some t→e≠some t)
 (h:a.put d x=a.put d v):(a.put e u).put d x=(a.put e u).put d v:=by
 rw [←Act.put_comm a x u hne,h,Act.put_comm a v u hne]
def Looks (P:Program) (ops:Array Oper) (o:Oper) (a:Act) (w:World) (v:Value):Prop:=
 ∀w',Ext w w'→(Region.wanted o (yielded ops a.tmps)=true∧(execOp a.eval o).run P w'=.ok (.value v) w')∨(Region.wanted o (yielded ops a.tmps)=false∧v=undef)
theorem Looks.of_same {o:Oper} {a a':Act} {w:World} {v:Value} (h:Looks P ops o a w v) (he:execOp a'.eval o=execOp a.eval o)
 (hw:Region.wanted o (yielded ops a'.tmps)=Region.wanted o (yielded ops a.tmps)):Looks P ops o a' w v:=by
 intro w' hx;rw [he,hw];exact h w' hx
theorem Looks.ext {o:Oper} {a:Act} {w w':World} {v:Value} (h:Looks P ops o a w v) (hx:Ext w w'):Looks P ops o a w' v:=fun w2 h2=>h w2 (hx.trans h2)
theorem Looks.wpOp {Q:Exit→Act→World→Prop} {i:Nat} {o:Oper} {v:Value} {a:Act} {w:World} (hi:ops[i]?=some o) (hy:Looks P ops o a w v)
 {K:Act→World→Prop} (h:K (a.put o.dst v) w):wpOp P ops Q i K a w:=by
 unfold Go.wpOp;simp only [hi];rcases hy w (Ext.refl w) with ⟨hw,hv⟩ | ⟨hw,rfl⟩
 ·simp only [hw,if_true,Oper.wp,hv,Oper.upon];exact .inl h
 ·simp only [hw,Bool.false_eq_true,if_false];exact h
def zSY (P:Program) (ops:Array Oper) (Q:Exit→Act→World→Prop) (m:Nat) (j:Nat) (oj:Oper) (K:Act→World→Prop) (a:Act) (w:World):Prop:=
 match m with
 | 0=>∃v,Yields P ops oj v a∧K (a.put oj.dst v) w
 | 1=>∃v,Looks P ops oj a w v∧K (a.put oj.dst v) w
 | 2=>∃v,Gives P ops oj a w v∧∀w',Ext w w'→K (a.put oj.dst v) w'
 | 3=>wpOp P ops Q j (fun a' w'=>Ext w w'∧K a' w') a w
 | _=>wpOp P ops Q j K a w
def opT (P:Program) (ops:Array Oper) (Q:Exit→Act→World→Prop) (m:Nat) (i:Nat) (K:Act→World→Prop) (a:Act) (w:World):Prop:=
 match ops[i]? with
 | none=>K a w
 | some o=>zSY P ops Q m i o K a w
theorem zQp {Q:Exit→Act→World→Prop} {m:Nat} {i:Nat} {K:Act→World→Prop} {a:Act} {w:World}
 (hh:opT P ops Q m i K a w):wpOp P ops Q i K a w:=by
 unfold opT at hh;split at hh
 ·rename_i ho;unfold wpOp;simp only [ho];exact hh
 ·rename_i o ho;rcases zRu m with rfl | rfl | rfl | rfl | ⟨n,rfl⟩
  ·obtain ⟨v,hy,hk⟩:=hh;exact hy.wpOp ho hk
  ·obtain ⟨v,hy,hk⟩:=hh;exact hy.wpOp ho hk
  ·obtain ⟨v,hy,hk⟩:=hh;have h0:=hy w (Ext.refl w);unfold wpOp;simp only [ho];unfold zCC at h0;split
   ·rename_i hw;simp only [hw,if_true] at h0;refine .inl ?_;unfold Oper.wp;unfold zC4 at h0;generalize (execOp a.eval o).run P w=r at *;cases r with
    | ok n w'=>
     cases n<;>simp only [zBe] at h0<;>simp only [Oper.upon]
     case value x=>rw [h0.2];exact hk _ h0.1
     case skip=>rw [h0.2];exact hk _ h0.1
     case enter f args=>
      refine h0.mono fun e w'' ⟨x,he,hx,hn⟩=>?_
      subst he;show K (a.put o.dst x) w'';rw [hn];exact hk _ hx
     case row f args=>
      refine h0.mono fun x w'' ⟨hx,hn⟩=>?_
      rw [hn];exact hk _ hx
    | halt x w'=>simp only [zBe] at h0
   ·rename_i hw;simp only [hw] at h0;rw [show a.put o.dst undef=a.put o.dst v from h0];exact hk _ (Ext.refl w)
  ·have h1:wpOp P ops Q i (fun a' w'=>Ext w w'∧K a' w') a w:=hh;exact wpOp_mono (fun a w hk=>hk.2) h1
  ·exact hh
theorem zPm {Q:Exit→Act→World→Prop} {m:Nat} {j:Nat} {oj:Oper} {K:Act→World→Prop} {a:Act} {w:World} (hj:ops[j]?=some oj)
 (h:zSY P ops Q m j oj K a w):opT P ops Q m j K a w:=by
 unfold opT;simp only [hj];exact h
theorem Looks.put_back {oi oj:Oper} {v u:Value} {a:Act} {w:World} (hap:oi.apart ops oj=true) (hsj:∀cs b,oj.op≠.select cs b)
 (hy:Looks P ops oj (a.put oi.dst v) w u):Looks P ops oj a w u:=by
 obtain ⟨h1,_,_⟩:=Oper.apart_spec hap;exact hy.of_same (execOp_put oj hsj a oi.dst v h1).symm (wanted_put oj a oi.dst v h1).symm
theorem Looks.put_on {oi oj:Oper} {v u:Value} {a:Act} {w:World} (hap:oi.apart ops oj=true) (hsi:∀cs b,oi.op≠.select cs b)
 (hy:Looks P ops oi a w v):Looks P ops oi (a.put oj.dst u) w v:=by
 obtain ⟨_,_,h3⟩:=Oper.apart_spec hap;exact hy.of_same (execOp_put oi hsi a oj.dst u h3) (wanted_put oi a oj.dst u h3)
theorem zFt {Q:Exit→Act→World→Prop} {oi:Oper} {j:Nat} {oj:Oper} {v:Value} (hj:ops[j]?=some oj) (hap:oi.apart ops oj=true)
 (hsi:∀cs b,oi.op≠.select cs b) (hsj:∀cs b,oj.op≠.select cs b)
 (hQ:∀c a w,Q (.panic c) (a.put oi.dst v) w→Q (.panic c) a w) {K:Act→World→Prop} {a:Act} {w:World}
 (h:wpOp P ops Q j K (a.put oi.dst v) w) :
 wpOp P ops Q j (fun a' w'=>(execOp a'.eval oi=execOp a.eval oi∧Region.wanted oi (yielded ops a'.tmps)=Region.wanted oi (yielded ops a.tmps))∧K (a'.put oi.dst v) w') a w:=by
 obtain ⟨h1,h2,h3⟩:=Oper.apart_spec hap;have keep:∀u,execOp (a.put oj.dst u).eval oi=execOp a.eval oi∧Region.wanted oi (yielded ops (a.put oj.dst u).tmps)=Region.wanted oi (yielded ops a.tmps):=
  fun u=>⟨execOp_put oi hsi a oj.dst u h3,wanted_put oi a oj.dst u h3⟩
 unfold wpOp at *;simp only [hj] at *;rw [wanted_put oj a oi.dst v h1] at h;split
 ·rename_i hw;simp only [hw,if_true] at h;rcases h with h | ⟨hasks,hlets⟩
  case inr=>exact .inr ⟨by unfold Oper.asks at *;rw [execOp_put oj hsj a oi.dst v h1] at hasks;exact hasks,hlets⟩
  refine .inl ?_;unfold Oper.wp at *;rw [execOp_put oj hsj a oi.dst v h1] at h;generalize (execOp a.eval oj).run P w=r at *;cases r with
  | ok n w'=>
   cases n<;>simp only [Oper.upon] at h ⊢
   case value u=>exact ⟨keep u,by rw [←Act.put_comm a v u h2];exact h⟩
   case skip=>exact ⟨keep _,by rw [←Act.put_comm a v undef h2];exact h⟩
   case defer d=>
    refine ⟨?_,?_⟩
    ·have:=keep undef;rw [show (({ a with defers:=d::a.defers }:Act).put oj.dst undef).eval=(a.put oj.dst undef).eval from by cases oj.dst<;>rfl,
      show (({ a with defers:=d::a.defers }:Act).put oj.dst undef).tmps=(a.put oj.dst undef).tmps from by cases oj.dst<;>rfl]
     exact this
    ·rw [←Act.put_comm _ v undef h2,←Act.put_defers];exact h
   case enter f args=>
    refine Calls.mono h fun e w'' he=>?_
    cases e with
    | returned u=>exact ⟨keep u,by rw [←Act.put_comm a v u h2];exact he⟩
    | panicked c=>exact hQ _ _ _ he
    | outgrown=>exact he
   case row row args=>exact Rows.mono h fun u w'' he=>⟨keep u,by rw [←Act.put_comm a v u h2];exact he⟩
  | halt x w'=>
   cases x<;>simp only [Oper.upon] at h ⊢
   case panic u=>exact hQ _ _ _ h
 ·rename_i hw;simp only [hw] at h;exact ⟨keep _,by rw [←Act.put_comm a v undef h2];exact h⟩
theorem Yields.put_back {oi oj:Oper} {v u:Value} {a:Act} (hap:oi.apart ops oj=true) (hsj:∀cs b,oj.op≠.select cs b)
 (hy:Yields P ops oj u (a.put oi.dst v)):Yields P ops oj u a:=by
 obtain ⟨h1,_,_⟩:=Oper.apart_spec hap;exact hy.of_same (execOp_put oj hsj a oi.dst v h1).symm (wanted_put oj a oi.dst v h1).symm
theorem Yields.put_on {oi oj:Oper} {v u:Value} {a:Act} (hap:oi.apart ops oj=true) (hsi:∀cs b,oi.op≠.select cs b)
 (hy:Yields P ops oi v a):Yields P ops oi v (a.put oj.dst u):=by
 obtain ⟨_,_,h3⟩:=Oper.apart_spec hap;exact hy.of_same (execOp_put oi hsi a oj.dst u h3) (wanted_put oi a oj.dst u h3)
theorem Gives.put_back {oi oj:Oper} {v u:Value} {a:Act} {w:World} (hap:oi.apart ops oj=true) (hsj:∀cs b,oj.op≠.select cs b)
 (hy:Gives P ops oj (a.put oi.dst v) w u):∃u',Gives P ops oj a w u'∧(a.put oi.dst v).put oj.dst u'=(a.put oi.dst v).put oj.dst u:=by
 obtain ⟨h1,h2,_⟩:=Oper.apart_spec hap;cases hd:oj.dst with
 | none=>
  refine ⟨u,fun w' hx=>?_,rfl⟩;refine zGH ?_ (zHV hap hsj (hy w' hx));rintro a' ⟨u',rfl,_⟩;rw [hd];rfl
 | some d=>
  have hne:oi.dst≠some d:=fun e=>(h2 d e) hd
  have key:∀x y:Value,(a.put oi.dst v).put (some d) x=(a.put oi.dst v).put (some d) y→a.put (some d) x=a.put (some d) y:=by
   intro x y hxy;cases ho:oi.dst with
   | none=>rw [ho] at hxy;exact hxy
   | some t=>
    have htd:t≠d:=fun e=>hne (by rw [ho,e])
    rw [ho] at hxy;have h1:(a.tmps.setIfInBounds t v).setIfInBounds d x=(a.tmps.setIfInBounds t v).setIfInBounds d y:=congrArg Act.tmps hxy;have:a.tmps.setIfInBounds d x=a.tmps.setIfInBounds d y:=by
     by_cases hsz:d<a.tmps.size
     ·have:=congrArg (fun (l:Array Value)=>l[d]?) h1;simp [hsz] at this;rw [this]
     ·have e:∀z,a.tmps.setIfInBounds d z=a.tmps:=fun z=>Array.setIfInBounds_eq_of_size_le (Nat.le_of_not_lt hsz)
      rw [e,e]
    show ({ a with tmps:=a.tmps.setIfInBounds d x }:Act)={ a with tmps:=a.tmps.setIfInBounds d y }
    rw [this]
  refine ⟨u,fun w' hx=>?_,rfl⟩;refine zGH ?_ (zHV hap hsj (hy w' hx));rintro a' ⟨u',rfl,h⟩;rw [hd] at h ⊢;exact key _ _ h
theorem Gives.put_on {oi oj:Oper} {v u:Value} {a:Act} {w:World} (hap:oi.apart ops oj=true) (hsi:∀cs b,oi.op≠.select cs b)
 (hy:Gives P ops oi a w v):Gives P ops oi (a.put oj.dst u) w v:=by
 obtain ⟨_,h2,h3⟩:=Oper.apart_spec hap;exact hy.of_same (execOp_put oi hsi a oj.dst u h3) (wanted_put oi a oj.dst u h3) fun x hx=>zMR _ _ h2 hx
theorem Yields.unique {o:Oper} {v u:Value} {a:Act} (h:Yields P ops o v a) (k:Yields P ops o u a) (w:World):v=u:=by
 rcases h with ⟨hw,hv⟩ | ⟨hw,rfl⟩<;>rcases k with ⟨kw,kv⟩ | ⟨kw,rfl⟩
 ·have:=(hv w).symm.trans (kv w);injection this with h1;injection h1
 ·rw [hw] at kw;cases kw
 ·rw [hw] at kw;cases kw
 ·rfl
theorem zOb {l:Array Bool} {k:Nat} (h:l.getD k true=false):l.getD k false=false:=by
 unfold Array.getD at *;split at h
 ·rename_i hk;rw [dif_pos hk];exact h
 ·cases h
def FreeOf (ops:Array Oper) (md:Region.Mode) (listed:Array Bool) (i:Nat) (oi:Oper):Prop:=
 ∀j oj,ops[j]?=some oj→j≠i→listed.getD j true=false→(∀e∈oj.after,Region.binds md e=true→e.on≠i)→oi.apart ops oj=true
theorem FreeOf.set {listed:Array Bool} {i j:Nat} {oi:Oper} (h:FreeOf ops md listed i oi) (hj:listed.getD j true=false):FreeOf ops md (listed.setIfInBounds j true) i oi:=by
 intro k ok hk hki hun hno;refine h k ok hk hki ?_ hno;by_cases hjk:j=k
 ·subst hjk;exact hj
 ·rw [getD_set_ne true hjk] at hun;exact hun
theorem zCp {listed:Array Bool} {i:Nat} {oj:Oper} (hr:listed.getD i true=false) (hall:∀e∈oj.after,Region.binds md e=true→listed.getD e.on false=true) :
 ∀e∈oj.after,Region.binds md e=true→e.on≠i:=fun e he hb heq=>by
 have h1:=hall e he hb;rw [heq,zOb hr] at h1;cases h1
def zPb (ops:Array Oper) (md:Region.Mode) (mk:Nat→Nat) (m:Nat) (i:Nat):Prop:=
 ∀(listed:Array Bool) (j:Nat),listed.getD i true=false→(∀k ok,ops[k]?=some ok→listed.getD k false=true→∀e∈ok.after,Region.binds md e=true→listed.getD e.on false=true)→
  j∈Region.ready md ops listed→mk j<m
def Closed (ops:Array Oper) (md:Region.Mode) (listed:Array Bool):Prop:=
 ∀k ok,ops[k]?=some ok→listed.getD k false=true→∀e∈ok.after,Region.binds md e=true→listed.getD e.on false=true
theorem Closed.set {listed:Array Bool} {i:Nat} (h:Closed ops md listed) (hi:i∈Region.ready md ops listed):Closed ops md (listed.setIfInBounds i true):=by
 obtain ⟨_,oi,hoi,hall⟩:=mem_ready.1 hi;intro j oj hj hl e he hb;by_cases hij:i=j
 ·subst hij;have:oj=oi:=Option.some.inj (hj.symm.trans hoi);subst this;exact getD_set_true (hall e he hb)
 ·rw [getD_set_ne false hij] at hl;exact getD_set_true (h j oj hj hl e he hb)
def QK (K:Act→World→Prop):Exit→Act→World→Prop
 | .normal,a,w=>K a w
 | _,_,_=>False
def zC5:Op→Bool
 | .move _ | .assign _ | .pick .. | .build .. | .binOp .. | .unOp .. | .convert .. | .makeInterface .. | .makeFunc .. | .fieldAddr .. | .field .. | .indexAddr .. | .index .. | .extract .. | .slice .. | .nilCheck _ | .typeAssert ..=>true
 | _=>false
def zBG (o:Oper) (a:Act):Bool:=match o.dst with
 | some t=>decide (t<a.tmps.size)
 | none=>false
def zCz:Op→Bool
 | .load .. | .lookup ..=>true
 | .call c=>match c.callee with
  | .builtin .len | .builtin .cap | .builtin .min | .builtin .max=>true
  | _=>false
 | o=>zC5 o
def mkOf (ord:List (Nat×Nat)) (i:Nat):Nat:=match ord.find? (fun x=>x.2==i) with
 | some (m,_)=>m
 | none=>0
def reachB (md:Region.Mode) (ops:Array Oper) (i:Nat):Nat→Nat→Bool
 | 0,_=>false
 | f+1,j=>match ops[j]? with
  | some oj=>oj.after.any fun e=>Region.binds md e&&(e.on==i||reachB md ops i f e.on)
  | none=>false
def zNC (md:Region.Mode) (ops:Array Oper) (ord:List (Nat×Nat)) (m i:Nat):Bool:=
 (List.range ops.size).all fun j=>decide (mkOf ord j<m)||reachB md ops i ops.size j
theorem zQm {listed:Array Bool} {i:Nat} (hcl:Closed ops md listed) (hun:listed.getD i false=false):∀(f j:Nat),reachB md ops i f j=true→listed.getD j false=false:=by
 intro f
 induction f with
 | zero=>intro j h;cases h
 | succ f ih=>
  intro j h;unfold reachB at h;split at h
  ·rename_i oj hoj;obtain ⟨e,he,hb⟩:=Array.any_eq_true'.1 h;simp only [Bool.and_eq_true,Bool.or_eq_true,beq_iff_eq] at hb;obtain ⟨hb,ho⟩:=hb;cases hl:listed.getD j false with
   | false=>rfl
   | true=>
    have h2:=hcl j oj hoj hl e he hb;rcases ho with ho | ho
    ·rw [ho,hun] at h2;cases h2
    ·rw [ih e.on ho] at h2;cases h2
  ·cases h
theorem zLu {ord:List (Nat×Nat)} {m i:Nat} (h:zNC md ops ord m i=true):zPb ops md (mkOf ord) m i:=by
 intro listed j hun hcl hr;have hlt:j<ops.size:=by obtain ⟨_,o,ho,_⟩:=mem_ready.1 hr;exact (Array.getElem?_eq_some_iff.1 ho).1
 have h1:=List.all_eq_true.1 h j (List.mem_range.2 hlt);simp only [Bool.or_eq_true,decide_eq_true_eq] at h1;rcases h1 with h1 | h1
 ·exact h1
 ·obtain ⟨_,oj,hoj,hall⟩:=mem_ready.1 hr;exfalso;have hun':=zOb hun;cases hs:ops.size with
  | zero=>omega
  | succ n=>
   rw [hs] at h1;unfold reachB at h1;simp only [hoj] at h1;obtain ⟨e,he,hb⟩:=Array.any_eq_true'.1 h1;simp only [Bool.and_eq_true,Bool.or_eq_true,beq_iff_eq] at hb;have h2:=hall e he hb.1;rcases hb.2 with ho | ho
   ·rw [ho,hun'] at h2;cases h2
   ·rw [zQm hcl hun' n e.on ho] at h2;cases h2
theorem zC8 {s:Sem Value} {w w':World} {n:Next} (h:(do let x ←s;pure (Next.value x):Sem Next).run P w=.ok n w'):∃v,n=.value v:=by
 rw [Sem.run_bind] at h;cases hr:s.run P w with
 | ok x w1=>rw [hr] at h;simp [Result.andThen] at h;exact ⟨x,h.1.symm⟩
 | halt x w1=>rw [hr] at h;simp [Result.andThen] at h
theorem zHf {ρ:Operand→Value} {o:Oper} (h:zC5 o.op=true) {w w':World} {n:Next} (hr:(execOp ρ o).run P w=.ok n w'):∃v,n=.value v:=by
 obtain ⟨dst,op,type,pos,after,guard⟩:=o;cases op<;>simp only [zC5] at h<;>try (cases h;done)
 case move x=>simp [execOp] at hr;exact ⟨_,hr.1.symm⟩
 case assign x=>simp [execOp] at hr;exact ⟨_,hr.1.symm⟩
 case pick c a b=>
  simp only [execOp,Sem.run_bind] at hr;cases h1:(asBool (ρ c)).run P w with
  | ok x w1=>rw [h1] at hr;simp [Result.andThen] at hr;exact ⟨_,hr.1.symm⟩
  | halt x w1=>rw [h1] at hr;simp [Result.andThen] at hr
 case nilCheck x=>
  simp only [execOp] at hr;split at hr
  ·simp [runtimePanic] at hr
  ·simp [runtimePanic] at hr
  ·simp [runtimePanic] at hr
  ·split at hr
   ·simp [runtimePanic] at hr
   ·simp only [Sem.run_bind] at hr
    revert hr
    generalize (program:Sem Program).run P w=r1;cases r1 with
    | halt x w1=>intro hr;simp [Result.andThen] at hr
    | ok p w1=>
     simp only [Result.andThen];intro hr
     revert hr
     generalize (nilAhead _ _ _ _:Sem _).run P w1=r2;cases r2 with
     | halt x w1=>intro hr;simp at hr
     | ok p w1=>
      intro hr;simp only at hr;split at hr
      ·simp [unsupported] at hr
      ·simp at hr;exact ⟨_,hr.1.symm⟩
   ·simp at hr;exact ⟨_,hr.1.symm⟩
  ·simp at hr;exact ⟨_,hr.1.symm⟩
 all_goals exact zC8 hr
theorem put_defers (a:Act) (d:Option Tmp) (v:Value):(a.put d v).defers=a.defers:=by cases d<;>rfl
theorem zGU {a:Act} {d:Option Tmp} {x y:Value} (h:a.put d x=a.put d y):d=none∨(∃t,d=some t∧a.tmps.size≤t)∨x=y:=by
 cases d with
 | none=>exact .inl rfl
 | some t=>
  by_cases ht:t<a.tmps.size
  ·have:=congrArg (fun b:Act=>b.tmps[t]?) h;simp [Act.put,ht] at this;exact .inr (.inr this)
  ·exact .inr (.inl ⟨t,rfl,Nat.le_of_not_lt ht⟩)
theorem zKH {o:Oper} {a a':Act} (hp:zC5 o.op=true) (hf:zBG o a=true) (h:∀(w:World) (K:Exit→Act→World→Prop),K .normal a' w→wpList P ops K [o] a w):∃v,Yields P ops o v a∧a'=a.put o.dst v:=by
 have h1:=fun w=>h w (QK fun x y=>x=a'∧y=w) ⟨rfl,rfl⟩
 simp only [wpList] at h1;by_cases hw:Region.wanted o (yielded ops a.tmps)=true
 ·simp only [hw,if_true] at h1;have key:∀w,∃v,(execOp a.eval o).run P w=.ok (.value v) w∧a.put o.dst v=a':=by
   intro w;rcases h1 w with h2 | ⟨_,_,_,h2⟩
   case inr=>exact h2.elim
   unfold Oper.wp at h2;have hv:=@zHf P a.eval o hp w;generalize (execOp a.eval o).run P w=r at *;cases r with
   | ok n w'=>
    obtain ⟨v,rfl⟩:=hv rfl;simp only [Oper.upon] at h2;obtain ⟨h3,rfl⟩:=h2;exact ⟨v,rfl,h3⟩
   | halt x w'=>cases x<;>simp only [Oper.upon] at h2<;>exact h2.elim
  obtain ⟨v,_,hv⟩:=key default;refine ⟨v,.inl ⟨hw,fun w=>?_⟩,hv.symm⟩;obtain ⟨u,hu,hu2⟩:=key w;have:u=v:=by
   rcases zGU (hu2.trans hv.symm) with h3 | ⟨t,h3,h4⟩ | h3
   ·simp [zBG,h3] at hf
   ·unfold zBG at hf;rw [h3] at hf;exact absurd (of_decide_eq_true hf) (Nat.not_lt.2 h4)
   ·exact h3
  rw [←this];exact hu
 ·have h2:=h1 default;simp only [hw] at h2;exact ⟨undef,.inr ⟨by simpa using hw,rfl⟩,h2.1.symm⟩
theorem zSS {o:Oper} {a a':Act} {w:World} (hd:a'.defers=a.defers) (h:∀w',Ext w w'→∀K:Exit→Act→World→Prop,(∀w'',Ext w' w''→K .normal a' w'')→wpList P ops K [o] a w'):∃v,Gives P ops o a w v∧a'=a.put o.dst v:=by
 have h1:=fun w' hx=>h w' hx (QK fun x y=>x=a'∧Ext w' y) (fun _ hw=>⟨rfl,hw⟩)
 simp only [wpList] at h1;have hq:∀w',Ext w w'→zCC P ops o a w' (fun x=>x=a'):=by
  intro w' hx;have h2:=h1 w' hx;unfold zCC;split
  ·rename_i hw;simp only [hw,if_true] at h2;rcases h2 with h2 | ⟨_,_,_,h2⟩
   case inr=>exact h2.elim
   unfold Oper.wp at h2;unfold zC4;generalize (execOp a.eval o).run P w'=r at *;cases r with
   | ok n w'=>
    cases n<;>simp only [Oper.upon] at h2<;>simp only [zBe]
    case value x=>exact ⟨h2.2,h2.1⟩
    case skip=>exact ⟨h2.2,h2.1⟩
    case enter f args=>
     refine h2.mono fun e w'' he=>?_
     cases e with
     | returned v=>exact ⟨v,rfl,he.2,he.1⟩
     | panicked c=>exact he.elim
     | outgrown=>obtain ⟨_,_,he⟩:=he;exact he.elim
    case row row args=>exact h2.mono fun v w'' he=>⟨he.2,he.1⟩
    case defer d=>
     have h3:=congrArg Act.defers h2.1;rw [put_defers,hd] at h3;have:=congrArg List.length h3;simp at this
    all_goals exact h2.elim
   | halt x w'=>cases x<;>simp only [Oper.upon] at h2<;>exact h2.elim
  ·rename_i hw;simp only [hw] at h2;exact h2.1
 have hv:∃v,a'=a.put o.dst v:=by
  have h2:=hq w (Ext.refl w);unfold zCC at h2;split at h2
  ·unfold zC4 at h2;generalize (execOp a.eval o).run P w=r at *;cases r with
   | ok n w'=>
    cases n<;>simp only [zBe] at h2
    case value x=>exact ⟨x,h2.2.symm⟩
    case skip=>exact ⟨undef,h2.2.symm⟩
    case enter f args=>obtain ⟨e,w'',fr,⟨x,_,_,hx⟩,_⟩:=h2 [];exact ⟨x,hx.symm⟩
    case row row args=>obtain ⟨v,w'',⟨_,hx⟩,_⟩:=h2 default [];exact ⟨v,hx.symm⟩
   | halt x w'=>simp only [zBe] at h2
  ·exact ⟨undef,h2.symm⟩
 obtain ⟨v,rfl⟩:=hv;exact ⟨v,hq,rfl⟩
theorem zJJ {ρ:Operand→Value} {o:Oper} (h:zCz o.op=true) {w w':World} {n:Next} (hr:(execOp ρ o).run P w=.ok n w'):∃v,n=.value v:=by
 by_cases hp:zC5 o.op=true
 ·exact zHf hp hr
 obtain ⟨dst,op,type,pos,after,guard⟩:=o;cases op
 case call c=>
  obtain ⟨callee,args,argTypes⟩:=c;cases callee with
  | builtin b=>cases b<;>simp only [zCz] at h<;>first|(cases h;done)|(exact zC8 hr)
  | _=>simp only [zCz] at h;cases h
 case load=>exact zC8 hr
 case lookup=>exact zC8 hr
 all_goals exact absurd h hp
theorem zR8 {o:Oper} {a a':Act} {w:World} (hp:zCz o.op=true) (hf:zBG o a=true) (h:∀w',Ext w w'→∀(K:Exit→Act→World→Prop),K .normal a' w'→wpList P ops K [o] a w'):∃v,Looks P ops o a w v∧a'=a.put o.dst v:=by
 have h1:=fun w' hx=>h w' hx (QK fun x y=>x=a'∧y=w') ⟨rfl,rfl⟩
 simp only [wpList] at h1;by_cases hw:Region.wanted o (yielded ops a.tmps)=true
 ·simp only [hw,if_true] at h1;have key:∀w',Ext w w'→∃v,(execOp a.eval o).run P w'=.ok (.value v) w'∧a.put o.dst v=a':=by
   intro w' hx;rcases h1 w' hx with h2 | ⟨_,_,_,h2⟩
   case inr=>exact h2.elim
   unfold Oper.wp at h2;have hv:=@zJJ P a.eval o hp w';generalize (execOp a.eval o).run P w'=r at *;cases r with
   | ok n w'=>
    obtain ⟨v,rfl⟩:=hv rfl;simp only [Oper.upon] at h2;obtain ⟨h3,rfl⟩:=h2;exact ⟨v,rfl,h3⟩
   | halt x w'=>cases x<;>simp only [Oper.upon] at h2<;>exact h2.elim
  obtain ⟨v,_,hv⟩:=key w (Ext.refl w);refine ⟨v,fun w' hx=>.inl ⟨hw,?_⟩,hv.symm⟩;obtain ⟨u,hu,hu2⟩:=key w' hx;have:u=v:=by
   rcases zGU (hu2.trans hv.symm) with h3 | ⟨t,h3,h4⟩ | h3
   ·simp [zBG,h3] at hf
   ·unfold zBG at hf;rw [h3] at hf;exact absurd (of_decide_eq_true hf) (Nat.not_lt.2 h4)
   ·exact h3
  rw [←this];exact hu
 ·have h2:=h1 w (Ext.refl w);simp only [hw] at h2;exact ⟨undef,fun _ _=>.inr ⟨by simpa using hw,rfl⟩,h2.1.symm⟩
def nth:List Oper→Nat→Option Oper
 | [],_=>none
 | o::_,0=>some o
 | _::l,i+1=>nth l i
theorem zBT:∀(l:List Oper) (i:Nat),nth l i=l.toArray[i]?
 | [],_=>by simp [nth]
 | _::_,0=>by simp [nth]
 | _::l,i+1=>by rw [nth,zBT l i];simp
theorem zBA {Q:Exit→Act→World→Prop} {a:Act} {w:World} {i:Nat} {o:Oper} (ho:ops[i]?=some o) {R:Act→World→Prop}
 (h:∀K:Exit→Act→World→Prop,(∀a w,R a w→K .normal a w)→wpList P ops K [o] a w):wpOp P ops Q i R a w:=by
 have:=h (QK R) (fun _ _ h=>h);simp only [wpList] at this;unfold wpOp;simp only [ho];split
 ·rename_i hw;simp only [hw,if_true] at this;rcases this with this | ⟨_,_,_,this⟩
  ·refine .inl ?_;unfold Oper.wp at *;generalize (execOp a.eval o).run P w=r at *;cases r with
   | ok n w'=>
    cases n<;>simp only [Oper.upon] at this ⊢
    case value x=>exact this
    case skip=>exact this
    case defer d=>exact this
    case enter f args=>
     refine this.mono (fun e w'' he=>?_);cases e with
     | returned v=>exact he
     | panicked c=>exact he.elim
     | outgrown=>obtain ⟨_,_,he⟩:=he;exact he.elim
    case row row args=>exact this
   | halt x w'=>cases x<;>simp only [Oper.upon] at this ⊢<;>exact this.elim
  ·exact this.elim
 ·rename_i hw;simp only [hw] at this;exact this
end
def zQY (K:Value→Prop) (w:World):Result Value→Prop
 | .ok v w'=>w'=w∧K v
 | _=>False
theorem zAD {P:Program} {fn:Func} {R:Ending→World→Prop} {a:Act} {w:World} (hd:a.defers=[])
 (h:∀K:Value→Prop,(∀v,R (.returned v) w→K v)→zQY K w ((results fn a.tmps).run P w)):bodyPost P fn R .ret a w:=by
 have h1:=h (fun v=>R (.returned v) w) (fun _ h=>h);generalize hr:(results fn a.tmps).run P w=r at h1;cases r with
 | ok v w'=>obtain ⟨rfl,h2⟩:=h1;exact ⟨hd,v,hr,h2⟩
 | halt x w'=>exact h1.elim
@[go_sem] theorem zTt {P:Program} {w:World} (ts:Array TypeId) (t:TypeId) (x y:ByteArray) :
 (Builtin.max_ ts t #[.string x,.string y]).run P w=.ok (.string (if Op.bytesLess x.toList y.toList then y else x)) w:=by
 simp [Builtin.max_,Builtin.max2,Op.stringOp];cases Op.bytesLess x.toList y.toList<;>rfl
attribute [go_sem] zQY
structure Chg (S:Nat→Prop) (w w':World):Prop where
 os:w'.os=w.os
 tape:w'.tape=w.tape
 output:w'.output=w.output
 size:w.heap.size≤w'.heap.size
 block:∀k,k<w.heap.size→¬S k→w'.heap[k]?=w.heap[k]?
theorem Chg.refl (S:Nat→Prop) (w:World):Chg S w w:=⟨rfl,rfl,rfl,Nat.le_refl _,fun _ _ _=>rfl⟩
theorem Chg.trans {S:Nat→Prop} {a b c:World} (h:Chg S a b) (k:Chg S b c):Chg S a c:=
 ⟨k.os.trans h.os,k.tape.trans h.tape,k.output.trans h.output,Nat.le_trans h.size k.size,fun i hi hs=>(k.block i (Nat.lt_of_lt_of_le hi h.size) hs).trans (h.block i hi hs)⟩
theorem Chg.step {S T:Nat→Prop} {a b c:World} (h:Chg S a b) (k:Chg T b c) (ht:∀i,T i→S i∨a.heap.size≤i):Chg S a c:=
 ⟨k.os.trans h.os,k.tape.trans h.tape,k.output.trans h.output,Nat.le_trans h.size k.size,
  fun i hi hs=>(k.block i (Nat.lt_of_lt_of_le hi h.size) (fun hT=>(ht i hT).elim hs (by omega))).trans (h.block i hi hs)⟩
theorem Chg.mono {S T:Nat→Prop} {w w':World} (h:Chg S w w') (hs:∀i,S i→T i):Chg T w w':=⟨h.os,h.tape,h.output,h.size,fun k hk ht=>h.block k hk (fun hS=>ht (hs k hS))⟩
theorem Chg.ofExt {S:Nat→Prop} {w w':World} (h:Ext w w'):Chg S w w':=⟨Below.os h,Below.tape h,Below.output h,Below.size h,fun k hk _=>Below.block h k hk⟩
theorem Chg.toExt {S:Nat→Prop} {w w':World} (h:Chg S w w') (hs:∀i,S i→w.heap.size≤i):Ext w w':=⟨h.os,h.tape,h.output,h.size,fun k hk=>h.block k hk (fun hS=>by have:=hs k hS;omega)⟩
theorem Chg.ofGrown {w w':World} {row:Option Nat} (h:w.grownBy w' row):Chg (fun k=>row=some k) w w':=⟨h.os,h.tape,h.output,h.size,fun k hk hs=>h.block k hk (fun e=>hs e.symm)⟩
theorem Chg.setCell (w:World) (p:Addr) (v:Value):Chg (fun k=>k=p.block) w (w.setCell p v):=⟨rfl,rfl,rfl,by simp [World.setCell],fun k _ hs=>Below.heap_setCell _ _ _ _ hs⟩
structure Res where
 holds:World→(Nat→Prop)→Prop
 here:∀{w F b},holds w F→F b→b<w.heap.size
 keep:∀{w w' F},holds w F→(∀b,F b→w'.heap[b]?=w.heap[b]?)→holds w' F
def Row (e:TypeId) (size:Nat) (v:Value) (n:Nat) (xs:List Value):Res where
 holds w F:=w.ownsRow 0 e size v n xs∧∀b,F b↔v.ownBlock=some b
 here:=fun ⟨h,hF⟩ hb=>(h.lt _ ((hF _).1 hb)).2
 keep:=by
  rintro w w' F ⟨h,hF⟩ hk;refine ⟨⟨h.1,?_⟩,hF⟩;rcases h.2 with h2 | ⟨g,cap,cur,rfl,hb,hg,r⟩
  ·exact .inl h2
  ·exact .inr ⟨g,cap,cur,rfl,hb,by rw [hk g ((hF g).2 rfl)];exact hg,r⟩
theorem Row.grown {w w':World} {e:TypeId} {size:Nat} {v v':Value} {n n':Nat} {xs xs':List Value} {F:Nat→Prop} (h:(Row e size v n xs).holds w F) (h':w'.ownsRow 0 e size v' n' xs')
 (hg:w.grownBy w' v.ownBlock) (hb:∀b,v'.ownBlock=some b→v.ownBlock=some b∨w.heap.size≤b):(Row e size v' n' xs').holds w' (fun b=>v'.ownBlock=some b)∧Chg F w w'∧∀b,v'.ownBlock=some b→F b∨w.heap.size≤b:=
 ⟨⟨h',fun _=>Iff.rfl⟩,(Chg.ofGrown hg).mono (fun i hi=>(h.2 i).2 hi),fun b hb'=>(hb b hb').imp (fun h1=>(h.2 b).2 h1) id⟩
section
variable {P:Program}
theorem zJ2 (w:World) (t ty e:TypeId) (i:TypeInfo) (z:Value) (size bytes:Nat) (ht:P.underlying t=some (.slice e)) (hi:P.info? e=some i) (hz:i.zero=some z)
 (hsize:i.size=size) (hby:i.bytes=bytes) (hzs:z.cells.size=size) (hsz:0<size)
 (v:Value) (n:Nat) (xs:List Value) (hown:w.ownsRow 0 e size v n xs)
 (a:Addr) (m c:Nat) (news:List Value) (hl:news.length=m*size) (hnews:∀j u,news[j]?=some u→w.cell? (a.add j)=some u) (h1:∀u∈news,u.oneCell'=true)
 (h63:n+m≤maxLen) (hbytes:(n+m)*bytes≤140737488355328) :
 ∃v' w',(Builtin.append_ #[t,t] ty #[v,.slice (some a) m c]).run P w=.ok v' w'∧w'.ownsRow 0 e size v' (n+m) (xs++news)∧w.grownBy w' v.ownBlock∧
  ∀b,v'.ownBlock=some b→v.ownBlock=some b∨w.heap.size≤b:=by
 obtain ⟨v',w',hr,h2,h3,h4⟩:=run_append_own (P:=P) w 0 t ty e i z size bytes ht hi hz hsize hby hzs hsz v n xs hown a m c news hl hnews h1 h63 hbytes (Nat.zero_le _);refine ⟨v',w',hr,h2,h3,?_⟩;have h63':n+m≤9223372036854775807:=by simp only [maxLen] at h63;omega
 subst hsize;subst hby;rcases hown.2 with ⟨rfl,rfl⟩ | ⟨g,cap,cur,rfl,hbg,hg,hnc,hcm,hcs,htake⟩
 ·by_cases hm:m=0
  ·intro b hb;rw [h4.2 ⟨rfl,hm⟩] at hb;cases hb
  ·have hr2:=run_append_nil (P:=P) w t ty e i z ht hi hz a m c news hl hnews (by omega) (by omega) (by have hb:=hbytes;simp only [Nat.zero_add] at hb;omega);have:=hr.symm.trans hr2;injection this with e1 _
   subst e1;intro b hb;simp only [Value.ownBlock,Option.some.injEq] at hb;exact .inr (by omega)
 ·by_cases hroom:n+m≤cap
  ·have hfit:n*i.size+news.length≤cur.size:=by rw [hl,hcs,←Nat.add_mul];exact Nat.mul_le_mul_right _ hroom
   have hr2:=run_append_room (P:=P) w t ty e i ht hi g n cap cur hg a m c news hl hnews h1 hroom hfit;have:=hr.symm.trans hr2;injection this with e1 _
   subst e1;exact fun b hb=>.inl hb
  ·have holds:∀j u,xs[j]?=some u→w.cell? ((⟨g,0,none⟩:Addr).add j)=some u:=hown.cells (g:=g) rfl;have hr2:=run_append_grow (P:=P) w t ty e i z ht hi hz ⟨g,0,none⟩ n cap xs hown.1 holds a m c news hl hnews (by omega) (by omega) (growslice_fits (by omega) hbytes);have:=hr.symm.trans hr2;injection this with e1 _
   subst e1;intro b hb;simp only [Value.ownBlock,Option.some.injEq] at hb;exact .inr (by omega)
end
theorem Row.shape {w:World} {F:Nat→Prop} {e:TypeId} {size:Nat} {v:Value} {n:Nat} {xs:List Value} (h:(Row e size v n xs).holds w F):∃a cap,v=.slice a n cap:=by
 rcases h.1.2 with ⟨rfl,rfl⟩ | ⟨g,cap,cur,rfl,_⟩
 ·exact ⟨_,_,rfl⟩
 ·exact ⟨_,_,rfl⟩
def ValsAt (w:World) (a:Option Addr) (xs:List Value):Prop:=
 xs=[]∨∃b off,a=some ⟨b,off,none⟩∧∀i (h:i<xs.length),w.cell? ⟨b,off+i,none⟩=some xs[i]
theorem ValsAt.get {w:World} {b off:Nat} {xs:List Value} (h:ValsAt w (some ⟨b,off,none⟩) xs) {i:Nat} {v:Value} (hv:xs[i]?=some v):w.cell? ⟨b,off+i,none⟩=some v:=by
 obtain ⟨hi,rfl⟩:=List.getElem?_eq_some_iff.1 hv;rcases h with rfl | ⟨b',off',ha,hc⟩
 ·simp at hi
 ·simp only [Option.some.injEq,Addr.mk.injEq,and_true] at ha;obtain ⟨rfl,rfl⟩:=ha;exact hc i hi
theorem ValsAt.some {w:World} {a:Option Addr} {xs:List Value} (h:ValsAt w a xs) {i:Nat} {v:Value} (hv:xs[i]?=some v):∃b off,a=some ⟨b,off,none⟩:=by
 obtain ⟨hi,rfl⟩:=List.getElem?_eq_some_iff.1 hv;rcases h with rfl | ⟨b',off',ha,_⟩
 ·simp at hi
 ·exact ⟨b',off',ha⟩
section
variable {P:Program} {f:FuncId} {args:Array Value}
end
section
variable {P:Program}
end
structure Rs where
 holds:World→(Nat→Prop)→(Nat→Prop)→Prop
 facts:World→Prop
 mono:∀{w M Z M' Z'},holds w M Z→(∀b,M b→M' b)→(∀b,Z b→Z' b)→holds w M' Z'
 keep:∀{w w' M Z},holds w M Z→(∀b,M b∨Z b→b<w.heap.size→w'.heap[b]?=w.heap[b]?)→holds w' M Z
 tells:∀{w M Z},holds w M Z→facts w
def Stars (w:World):List Rs→(Nat→Prop)→(Nat→Prop)→Prop
 | [],_,_=>True
 | r::l,M,Z=>∃M1 M2,r.holds w M1 Z∧Stars w l M2 Z∧(∀b,M1 b→M b)∧(∀b,M2 b→M b)∧∀b,M1 b→¬M2 b
theorem Stars.mono {w:World}:∀{l:List Rs} {M Z M' Z':Nat→Prop},Stars w l M Z→(∀b,M b→M' b)→(∀b,Z b→Z' b)→Stars w l M' Z'
 | [],_,_,_,_,_,_,_=>trivial
 | r::_,_,_,_,_,⟨M1,M2,h1,h2,s1,s2,d⟩,hM,hZ=>⟨M1,M2,r.mono h1 (fun _ h=>h) hZ,h2.mono (fun _ h=>h) hZ,fun b h=>hM b (s1 b h),fun b h=>hM b (s2 b h),d⟩
theorem Stars.keep {w w':World}:∀{l:List Rs} {M Z:Nat→Prop},Stars w l M Z→(∀b,M b∨Z b→b<w.heap.size→w'.heap[b]?=w.heap[b]?)→Stars w' l M Z
 | [],_,_,_,_=>trivial
 | r::_,_,_,⟨M1,M2,h1,h2,s1,s2,d⟩,hk=>
  ⟨M1,M2,r.keep h1 (fun b hb=>hk b (hb.imp (s1 b) id)),h2.keep (fun b hb=>hk b (hb.imp (s2 b) id)),s1,s2,d⟩
theorem Stars.append {w:World}:∀{l l':List Rs} {M Z:Nat→Prop},Stars w (l++l') M Z→∃M1 M2,Stars w l M1 Z∧Stars w l' M2 Z∧(∀b,M1 b→M b)∧(∀b,M2 b→M b)∧∀b,M1 b→¬M2 b
 | [],_,M,_,h=>⟨fun _=>False,M,trivial,h,fun _ h=>h.elim,fun _ h=>h,fun _ h=>h.elim⟩
 | r::l,l',M,Z,⟨M1,M2,h1,h2,s1,s2,d⟩=>by
  obtain ⟨N1,N2,k1,k2,t1,t2,e⟩:=Stars.append h2;exact ⟨fun b=>M1 b∨N1 b,N2,⟨M1,N1,h1,k1,fun b h=>.inl h,fun b h=>.inr h,fun b h hn=>d b h (t1 b hn)⟩,k2,
   fun b h=>h.elim (s1 b) (fun h=>s2 b (t1 b h)),fun b h=>s2 b (t2 b h),fun b h hn=>h.elim (fun h=>d b h (t2 b hn)) (fun h=>e b h hn)⟩
theorem Stars.join {w:World}:∀{l l':List Rs} {M1 M2 M Z:Nat→Prop},Stars w l M1 Z→Stars w l' M2 Z→(∀b,M1 b→M b)→(∀b,M2 b→M b)→(∀b,M1 b→¬M2 b)→Stars w (l++l') M Z
 | [],_,_,_,_,_,_,h2,_,s2,_=>h2.mono s2 (fun _ h=>h)
 | r::l,l',M1,M2,M,Z,⟨N1,N2,k1,k2,t1,t2,e⟩,h2,s1,s2,d=>
  ⟨N1,fun b=>N2 b∨M2 b,k1,Stars.join k2 h2 (fun b h=>.inl h) (fun b h=>.inr h) (fun b h=>d b (t2 b h)),
   fun b h=>s1 b (t1 b h),fun b h=>h.elim (fun h=>s1 b (t2 b h)) (s2 b),fun b h hn=>hn.elim (e b h) (fun hn=>d b (t1 b h) hn)⟩
def zDo (w:World):List Rs→Prop
 | []=>True
 | r::l=>r.facts w∧zDo w l
theorem Stars.facts {w:World}:∀{l:List Rs} {M Z:Nat→Prop},Stars w l M Z→zDo w l
 | [],_,_,_=>trivial
 | r::_,_,_,⟨_,_,h1,h2,_⟩=>⟨r.tells h1,h2.facts⟩
def Own (S:Nat→Prop) (W w:World) (l:List Rs):Prop:=
 Chg S W w∧∃M Z,Stars w l M Z∧(∀b,M b→S b∨W.heap.size≤b)∧(∀b,M b→¬Z b)∧∀b,M b∨Z b→b<w.heap.size
section
variable {S:Nat→Prop} {W w w':World} {l l':List Rs} {r r':Rs}
theorem Own.facts (h:Own S W w l):zDo w l:=by obtain ⟨_,_,_,h,_⟩:=h;exact h.facts
theorem Own.start (w:World) (S:Nat→Prop):Own S w w []:=⟨Chg.refl _ _,fun _=>False,fun _=>False,trivial,fun _ h=>h.elim,fun _ h=>h.elim,fun _ h=>h.elim id id |>.elim⟩
theorem Own.ext (h:Own S W w l) (hx:Ext w w'):Own S W w' l:=by
 obtain ⟨hc,M,Z,hs,h1,h2,h3⟩:=h;exact ⟨hc.trans (Chg.ofExt hx),M,Z,hs.keep (fun b _ hb=>hx.block b hb),h1,h2,fun b hb=>Nat.lt_of_lt_of_le (h3 b hb) hx.size⟩
theorem Own.drew (h:Own S W w l):Own S W w.drew l:=h.ext (Ext.drew_self w)
theorem Own.toExt (h:Own (fun _=>False) W w l):Ext W w:=h.1.toExt (fun _ h=>h.elim)
inductive Pick:List Rs→Rs→List Rs→Prop
 | here (r:Rs) (l:List Rs):Pick (r::l) r l
 | there (x:Rs) {r:Rs} {l l':List Rs}:Pick l r l'→Pick (x::l) r (x::l')
theorem Pick.stars:∀{l l':List Rs} {r:Rs} {M Z:Nat→Prop},Pick l r l'→Stars w l M Z→Stars w (r::l') M Z
 | _,_,_,_,_,.here _ _,h=>h
 | _::_,_,r,M,Z,.there x hp,⟨M1,M2,h1,h2,s1,s2,d⟩=>by
  obtain ⟨N1,N2,k1,k2,t1,t2,e⟩:=hp.stars h2;exact ⟨N1,fun b=>M1 b∨N2 b,k1,⟨M1,N2,h1,k2,fun b h=>.inl h,fun b h=>.inr h,fun b h hn=>d b h (t2 b hn)⟩,fun b h=>s2 b (t1 b h),fun b h=>h.elim (s1 b) (fun h=>s2 b (t2 b h)),
   fun b h hn=>hn.elim (fun hn=>d b hn (t1 b h)) (e b h)⟩
theorem Own.pick (h:Own S W w l) (hp:Pick l r l'):Own S W w (r::l'):=by
 obtain ⟨hc,M,Z,hs,rest⟩:=h;exact ⟨hc,M,Z,hp.stars hs,rest⟩
theorem Own.tail (h:Own S W w (r::l)):Own S W w l:=by
 obtain ⟨hc,M,Z,⟨M1,M2,_,h2,_,s2,_⟩,rest⟩:=h;exact ⟨hc,M,Z,h2.mono s2 (fun _ h=>h),rest⟩
inductive Takes:List Rs→List Rs→List Rs→Prop
 | nil (l:List Rs):Takes l [] l
 | cons {l l1 rs l0:List Rs} {r:Rs}:Pick l r l1→Takes l1 rs l0→Takes l (r::rs) l0
theorem Takes.stars:∀{l rs l0:List Rs} {M Z:Nat→Prop},Takes l rs l0→Stars w l M Z→Stars w (rs++l0) M Z
 | _,_,_,_,_,.nil _,h=>h
 | _,_,_,_,_,.cons hp ht,h=>by
  obtain ⟨M1,M2,h1,h2,s1,s2,d⟩:=hp.stars h;exact ⟨M1,M2,h1,ht.stars h2,s1,s2,d⟩
theorem Own.take {rs l0:List Rs} (h:Own S W w l) (ht:Takes l rs l0):Own S W w (rs++l0):=by
 obtain ⟨hc,M,Z,hs,rest⟩:=h;exact ⟨hc,M,Z,ht.stars hs,rest⟩
theorem Own.turn (h:Own S W w (r::l)):∃M Z,r.holds w M Z∧(∀b,M b→b<w.heap.size∧(S b∨W.heap.size≤b)∧¬Z b)∧(∀b,Z b→b<w.heap.size)∧
 ∀(w':World) (rs:List Rs) (M' Z':Nat→Prop),Chg M w w'→(∀b,M' b→M b∨w.heap.size≤b)→(∀b,Z' b→Z b∨M b∨w.heap.size≤b)→(∀b,M' b→¬Z' b)→(∀b,M' b∨Z' b→b<w'.heap.size)→Stars w' rs M' (fun b=>Z b∨Z' b)→Own S W w' (rs++l):=by
 obtain ⟨hc,M,Z,⟨M1,M2,h1,h2,s1,s2,d⟩,hS,hZ,hb⟩:=h;refine ⟨M1,Z,h1,fun b hb'=>⟨hb b (.inl (s1 b hb')),hS b (s1 b hb'),hZ b (s1 b hb')⟩,fun b h=>hb b (.inr h),fun w' rs M' Z' hc' hM' hZ' hd' hb' hs'=>?_⟩;refine ⟨hc.step hc' (fun i hi=>hS i (s1 i hi)),fun b=>M' b∨M2 b,fun b=>Z b∨Z' b,Stars.join hs' ?_ (fun b h=>.inl h) (fun b h=>.inr h) ?_,?_,?_,?_⟩
 ·refine (h2.keep (fun b hb2 hsz=>hc'.block b hsz (fun h=>?_))).mono (fun _ h=>h) (fun b h=>.inl h);exact hb2.elim (fun hm=>d b h hm) (fun hz=>hZ b (s1 b h) hz)
 ·intro b h hn;rcases hM' b h with h | h
  ·exact d b h hn
  ·have:=hb b (.inl (s2 b hn));omega
 ·rintro b (h | h)
  ·exact (hM' b h).elim (fun h=>hS b (s1 b h)) (fun h=>.inr (by have:=hc.size;omega))
  ·exact hS b (s2 b h)
 ·rintro b (h | h) (hz | hz)
  ·rcases hM' b h with h | h
   ·exact hZ b (s1 b h) hz
   ·have:=hb b (.inr hz);omega
  ·exact hd' b h hz
  ·exact hZ b (s2 b h) hz
  ·rcases hZ' b hz with hz | hz | hz
   ·exact hZ b (s2 b h) hz
   ·exact d b hz h
   ·have:=hb b (.inl (s2 b h));omega
 ·have:=hc'.size;rintro b ((h | h)|(h | h))
  ·exact hb' b (.inl h)
  ·have:=hb b (.inl (s2 b h));omega
  ·have:=hb b (.inr h);omega
  ·exact hb' b (.inr h)
theorem Own.turn1 (h:Own S W w (r::l)):∃M Z,r.holds w M Z∧(∀b,M b→b<w.heap.size∧(S b∨W.heap.size≤b)∧¬Z b)∧(∀b,Z b→b<w.heap.size)∧
 ∀(w':World) (r':Rs) (M':Nat→Prop),Chg M w w'→(∀b,M' b→M b∨w.heap.size≤b)→(∀b,M' b→b<w'.heap.size)→r'.holds w' M' Z→Own S W w' (r'::l):=by
 obtain ⟨M,Z,h1,h2,h3,k⟩:=h.turn;refine ⟨M,Z,h1,h2,h3,fun w' r' M' hc hM hb hr=>?_⟩;exact k w' [r'] M' (fun _=>False) hc hM (fun _ h=>h.elim) (fun _ _ h=>h) (fun b hb'=>hb'.elim (hb b) False.elim)
  ⟨M',fun _=>False,r'.mono hr (fun _ h=>h) (fun b h=>.inl h),trivial,fun _ h=>h,fun _ h=>h.elim,fun _ _ h=>h⟩
theorem Own.new (h:Own S W w l) (hx:Ext w w') {M':Nat→Prop} (hM:∀b,M' b→w.heap.size≤b∧b<w'.heap.size) (hr:r.holds w' M' (fun _=>False)):Own S W w' (r::l):=by
 obtain ⟨hc,M,Z,hs,hS,hZ,hb⟩:=h;refine ⟨hc.trans (Chg.ofExt hx),fun b=>M' b∨M b,Z,⟨M',M,r.mono hr (fun _ h=>h) (fun _ h=>h.elim),hs.keep (fun b _ hb=>hx.block b hb),fun b h=>.inl h,fun b h=>.inr h,fun b h hn=>?_⟩,?_,?_,?_⟩
 ·have:=(hM b h).1;have:=hb b (.inl hn);omega
 ·rintro b (h | h)
  ·exact .inr (by have:=(hM b h).1;have:=hc.size;omega)
  ·exact hS b h
 ·rintro b (h | h) hz
  ·have:=(hM b h).1;have:=hb b (.inr hz);omega
  ·exact hZ b h hz
 ·have:=hx.size;rintro b ((h | h) | h)
  ·exact (hM b h).2
  ·have:=hb b (.inl h);omega
  ·have:=hb b (.inr h);omega
end
def Rs.many (l:List Rs):Rs where
 holds w M Z:=Stars w l M Z
 facts w:=zDo w l
 mono:=Stars.mono
 keep:=Stars.keep
 tells:=Stars.facts
def Rs.ex {α:Type} (f:α→Rs):Rs where
 holds w M Z:=∃x,(f x).holds w M Z
 facts w:=∃x,(f x).facts w
 mono:=fun ⟨x,h⟩ hM hZ=>⟨x,(f x).mono h hM hZ⟩
 keep:=fun ⟨x,h⟩ hk=>⟨x,(f x).keep h hk⟩
 tells:=fun ⟨x,h⟩=>⟨x,(f x).tells h⟩
def Rs.pure (p:Prop):Rs where
 holds _ _ _:=p
 facts _:=p
 mono:=fun h _ _=>h
 keep:=fun h _=>h
 tells:=fun h=>h
def Rs.imm (φ:World→Prop):Rs where
 holds w _ Z:=∀w',(∀b,Z b→b<w.heap.size→w'.heap[b]?=w.heap[b]?)→φ w'
 facts:=φ
 mono:=fun h _ hZ w' hw'=>h w' (fun b hb hs=>hw' b (hZ b hb) hs)
 keep:=by
  intro w w' M Z h hk w2 h2;refine h w2 (fun b hb hs=>?_);have h3:=hk b (.inr hb) hs;have hs':b<w'.heap.size:=by
   rcases Nat.lt_or_ge b w'.heap.size with h4 | h4
   ·exact h4
   ·rw [Array.getElem?_eq_none h4,Array.getElem?_eq_getElem hs] at h3;cases h3
  rw [h2 b hb hs',h3]
 tells:=fun h=>h _ (fun _ _ _=>rfl)
def Rs.frz (r:Rs):Rs where
 holds w _ Z:=r.holds w Z Z
 facts:=r.facts
 mono:=fun h _ hZ=>r.mono h hZ hZ
 keep:=fun h hk=>r.keep h (fun b hb hs=>hk b (.inr (hb.elim id id)) hs)
 tells:=r.tells
section
variable {S:Nat→Prop} {W w w':World} {l l' rs:List Rs} {r r':Rs} {p:Prop} {α:Type} {f:α→Rs} {φ ψ:World→Prop}
theorem Own.unpack (h:Own S W w (.many rs::l)):Own S W w (rs++l):=by
 obtain ⟨hc,M,Z,⟨M1,M2,h1,h2,s1,s2,d⟩,rest⟩:=h;exact ⟨hc,M,Z,Stars.join h1 h2 s1 s2 d,rest⟩
theorem Own.pack (h:Own S W w (rs++l)):Own S W w (.many rs::l):=by
 obtain ⟨hc,M,Z,hs,rest⟩:=h;obtain ⟨M1,M2,h1,h2,s1,s2,d⟩:=hs.append;exact ⟨hc,M,Z,⟨M1,M2,h1,h2,s1,s2,d⟩,rest⟩
theorem Own.ofEx (h:Own S W w (.ex f::l)):∃x,Own S W w (f x::l):=by
 obtain ⟨hc,M,Z,⟨M1,M2,⟨x,h1⟩,h2⟩,rest⟩:=h;exact ⟨x,hc,M,Z,⟨M1,M2,h1,h2⟩,rest⟩
theorem Own.toEx (x:α) (h:Own S W w (f x::l)):Own S W w (.ex f::l):=by
 obtain ⟨hc,M,Z,⟨M1,M2,h1,h2⟩,rest⟩:=h;exact ⟨hc,M,Z,⟨M1,M2,⟨x,h1⟩,h2⟩,rest⟩
theorem Own.toPure (hp:p) (h:Own S W w l):Own S W w (.pure p::l):=by
 obtain ⟨hc,M,Z,hs,rest⟩:=h;exact ⟨hc,M,Z,⟨fun _=>False,M,hp,hs,fun _ h=>h.elim,fun _ h=>h,fun _ h=>h.elim⟩,rest⟩
theorem Own.again (h:Own S W w (.imm φ::l)):Own S W w (.imm φ::.imm φ::l):=by
 obtain ⟨hc,M,Z,⟨M1,M2,h1,h2,s1,s2,d⟩,rest⟩:=h;exact ⟨hc,M,Z,⟨fun _=>False,fun b=>M1 b∨M2 b,h1,⟨M1,M2,h1,h2,fun b h=>.inl h,fun b h=>.inr h,d⟩,fun _ h=>h.elim,fun b h=>h.elim (s1 b) (s2 b),fun _ h=>h.elim⟩,rest⟩
theorem Own.imp (hi:∀w,φ w→ψ w) (h:Own S W w (.imm φ::l)):Own S W w (.imm ψ::l):=by
 obtain ⟨hc,M,Z,⟨M1,M2,h1,h2,s1,s2,d⟩,rest⟩:=h;exact ⟨hc,M,Z,⟨M1,M2,fun w' hw'=>hi _ (h1 w' hw'),h2,s1,s2,d⟩,rest⟩
theorem Own.toImm (hi:∀w,r.facts w→φ w) (h:Own S W w (r::l)):Own S W w (.imm φ::l):=by
 obtain ⟨M,Z,h1,h2,h3,k⟩:=h.turn;refine k w [.imm φ] (fun _=>False) M (Chg.refl _ _) (fun _ h=>h.elim) (fun b h=>.inr (.inl h)) (fun _ h=>h.elim) (fun b hb=>(h2 b (hb.elim False.elim id)).1) ⟨fun _=>False,fun _=>False,fun w' hw'=>?_,trivial,fun _ h=>h,fun _ h=>h,fun _ _ h=>h⟩;refine hi w' (r.tells (r.keep h1 (fun b hb hs=>?_)));exact hw' b (hb.elim .inr .inl) hs
theorem Own.base (w:World) (S:Nat→Prop) (hφ:∀w',(∀b,b<w.heap.size→w'.heap[b]?=w.heap[b]?)→φ w'):Own S w w [.imm φ]:=
 ⟨Chg.refl _ _,fun _=>False,fun b=>b<w.heap.size,⟨fun _=>False,fun _=>False,fun w' hw'=>hφ w' (fun b hb=>hw' b hb hb),trivial,fun _ h=>h,fun _ h=>h,fun _ _ h=>h⟩,fun _ h=>h.elim,fun _ h=>h.elim,fun _ hb=>hb.elim False.elim id⟩
theorem Own.and (h:Own S W w (.imm φ::.imm ψ::l)):Own S W w (.imm (fun w=>φ w∧ψ w)::l):=by
 obtain ⟨hc,M,Z,⟨M1,M2,h1,⟨N1,N2,k1,k2,t1,t2,e⟩,s1,s2,d⟩,rest⟩:=h;exact ⟨hc,M,Z,⟨fun _=>False,N2,fun w' hw'=>⟨h1 w' hw',k1 w' hw'⟩,k2,fun _ h=>h.elim,fun b h=>s2 b (t2 b h),fun _ h=>h.elim⟩,rest⟩
theorem Stars.frz:∀{l:List Rs} {M Z:Nat→Prop},Stars w l M Z→Stars w (l.map .frz) (fun _=>False) (fun b=>M b∨Z b)
 | [],_,_,_=>trivial
 | r::_,M,Z,⟨M1,M2,h1,h2,s1,s2,d⟩=>
  ⟨fun _=>False,fun _=>False,r.mono h1 (fun b h=>.inl (s1 b h)) (fun b h=>.inr h),h2.frz.mono (fun _ h=>h) (fun b h=>h.imp (s2 b) id),fun _ h=>h,fun _ h=>h,fun _ _ h=>h⟩
theorem Own.frz (h:Own S W w l):Own (fun _=>False) w w (l.map .frz):=by
 obtain ⟨hc,M,Z,hs,hS,hZ,hb⟩:=h;exact ⟨Chg.refl _ _,fun _=>False,fun b=>M b∨Z b,hs.frz,fun _ h=>h.elim,fun _ h=>h.elim,fun b h=>h.elim False.elim (hb b)⟩
theorem Own.frzEx (h:Own S W w (.frz (.ex f)::l)):∃x,Own S W w (.frz (f x)::l):=by
 obtain ⟨hc,M,Z,⟨M1,M2,⟨x,h1⟩,h2⟩,rest⟩:=h;exact ⟨x,hc,M,Z,⟨M1,M2,h1,h2⟩,rest⟩
theorem Own.frzMany (h:Own S W w (.frz (.many rs)::l)):Own S W w (rs.map .frz++l):=by
 obtain ⟨hc,M,Z,⟨M1,M2,h1,h2,s1,s2,d⟩,rest⟩:=h;have h1':Stars w rs Z Z:=h1;exact ⟨hc,M,Z,Stars.join (M1:=fun _=>False) (h1'.frz.mono (fun _ h=>h) (fun b h=>h.elim id id)) h2 (fun _ h=>h.elim) s2 (fun _ h=>h.elim),rest⟩
theorem Own.frzFrz (h:Own S W w (.frz (.frz r)::l)):Own S W w (.frz r::l):=h
theorem Own.map1 (hi:∀w M Z,r.holds w M Z→r'.holds w M Z) (h:Own S W w (r::l)):Own S W w (r'::l):=by
 obtain ⟨hc,M,Z,⟨M1,M2,h1,h2⟩,rest⟩:=h;exact ⟨hc,M,Z,⟨M1,M2,hi _ _ _ h1,h2⟩,rest⟩
end
def BoxF (w:World) (b:Nat):Nat→List Value→Prop
 | _,[]=>True
 | i,[v]=>w.cell? ⟨b,i,none⟩=some v
 | i,v::l=>w.cell? ⟨b,i,none⟩=some v∧BoxF w b (i+1) l
theorem BoxF.of {w:World} {b:Nat}:∀(i:Nat) (cs:List Value),(∀j v,cs[j]?=some v→w.cell? ⟨b,i+j,none⟩=some v)→BoxF w b i cs
 | _,[],_=>trivial
 | i,[v],h=>h 0 v rfl
 | i,v::x::l,h=>⟨h 0 v rfl,BoxF.of (i+1) (x::l) fun j u hj=>by have:=h (j+1) u (by simpa using hj);rw [show i+(j+1)=i+1+j from by omega] at this;exact this⟩
def Var (b:Nat) (cs:List Value) (t:TypeId):Rs where
 holds w M _:=w.heap[b]?=some (.cells cs.toArray t (0,0))∧M b
 facts w:=BoxF w b 0 cs∧(∀k,w.frozen? ⟨b,k,none⟩=false)∧b<w.heap.size
 mono:=fun ⟨h1,h2⟩ hM _=>⟨h1,hM _ h2⟩
 keep:=fun ⟨h1,h2⟩ hk=>⟨by rw [hk b (.inl h2) (Array.getElem?_eq_some_iff.1 h1).1];exact h1,h2⟩
 tells:=by
  rintro w M Z ⟨h1,h2⟩;refine ⟨BoxF.of 0 cs fun j v hj=>?_,fun k=>by simp [World.frozen?,h1],(Array.getElem?_eq_some_iff.1 h1).1⟩;rw [Nat.zero_add,cell_of_row w b j _ t (0,0) h1];simpa using hj
theorem Var.cells {b:Nat} {cs:List Value} {t:TypeId} {w:World} (h:BoxF w b 0 cs) {k:Nat} {v:Value} (hk:cs[k]?=some v):w.cell? ⟨b,k,none⟩=some v:=by
 have:∀(cs:List Value) (i k:Nat),BoxF w b i cs→cs[k]?=some v→w.cell? ⟨b,i+k,none⟩=some v:=by
  intro cs
  induction cs with
  | nil=>intro i k _ hk;simp at hk
  | cons x l ih=>
   intro i k h hk;cases l with
   | nil=>
    cases k with
    | zero=>simp at hk;subst hk;exact h
    | succ k=>simp at hk
   | cons y l=>
    cases k with
    | zero=>simp at hk;subst hk;exact h.1
    | succ k=>rw [show i+(k+1)=i+1+k from by omega];exact ih (i+1) k h.2 (by simpa using hk)
 simpa using this cs 0 k h hk
def zJx (w:World):Option Addr→Prop
 | some a=>∀k,w.frozen? ⟨a.block,k,none⟩=false
 | none=>True
def Row2 (e:TypeId) (size:Nat) (a:Option Addr) (n cap:Nat) (xs:List Value):Rs where
 holds w M _:=w.ownsRow 0 e size (.slice a n cap) n xs∧∀b,(Value.slice a n cap).ownBlock=some b→M b
 facts w:=ValsAt w a xs∧zJx w a
 mono:=fun ⟨h1,h2⟩ hM _=>⟨h1,fun b hb=>hM b (h2 b hb)⟩
 keep:=by
  rintro w w' M Z ⟨h,hF⟩ hk;refine ⟨⟨h.1,?_⟩,hF⟩;rcases h.2 with h2 | ⟨g,cap,cur,hv,hb,hg,r⟩
  ·exact .inl h2
  ·exact .inr ⟨g,cap,cur,hv,hb,by rw [hk g (.inl (hF g (by rw [hv];rfl))) (Array.getElem?_eq_some_iff.1 hg).1];exact hg,r⟩
 tells:=by
  rintro w M Z ⟨h,hF⟩;rcases h.2 with ⟨hv,hn⟩ | ⟨g,c,cur,hv,_,hgg,_⟩
  ·injection hv with h1 h2 h3
   subst h1;exact ⟨.inl (List.length_eq_zero_iff.1 (by rw [h.1,hn];simp)),trivial⟩
  ·injection hv with h1 h2 h3
   subst h1;subst h3;refine ⟨.inr ⟨g,0,rfl,fun i hi=>?_⟩,fun k=>by simp [World.frozen?,hgg]⟩;have e:∀j,(⟨g,0,none⟩:Addr).add j=⟨g,0+j,none⟩:=fun j=>by unfold Addr.add;split<;>simp_all
   have h1:=h.cells (g:=g) rfl i _ (List.getElem?_eq_getElem hi)
   rwa [e] at h1
section
variable {S:Nat→Prop} {W w w':World} {l l' rs:List Rs} {r r':Rs}
theorem Own.alloc (h:Own S W w l) (cs:List Value) (t:TypeId):Own S W (w.alloc (.cells cs.toArray t)) (Var w.heap.size cs t::l):=
 h.new (M':=fun b=>b=w.heap.size) ((Ext.refl w).alloc _) (fun b hb=>by rw [hb];simp) ⟨heap_alloc_new w _,rfl⟩
theorem Own.nil (h:Own S W w l) (e:TypeId) (size:Nat):Own S W w (Row2 e size none 0 0 []::l):=
 h.new (M':=fun _=>False) (Ext.refl w) (fun _ h=>h.elim) ⟨World.ownsRow_nil w 0 e size,fun b hb=>by simp [Value.ownBlock] at hb⟩
inductive Put:List Rs→Rs→Rs→List Rs→Prop
 | here (r r':Rs) (l:List Rs):Put (r::l) r r' (r'::l)
 | there (x:Rs) {r r':Rs} {l l':List Rs}:Put l r r' l'→Put (x::l) r r' (x::l')
theorem Put.pick:∀{l l':List Rs} {r r':Rs},Put l r r' l'→∃l0,Pick l r l0∧∀M Z w,Stars w (r'::l0) M Z→Stars w l' M Z
 | _,_,_,_,.here _ _ _=>⟨_,.here _ _,fun _ _ _ h=>h⟩
 | _::_,_,_,_,.there x hp=>by
  obtain ⟨l0,h1,h2⟩:=hp.pick;refine ⟨x::l0,.there _ h1,fun M Z w ⟨M1,M2,k1,⟨N1,N2,q1,q2,t1,t2,e⟩,s1,s2,d⟩=>?_⟩;exact ⟨N1,fun b=>M1 b∨N2 b,q1,h2 _ _ _ ⟨M1,N2,k1,q2,fun b h=>.inl h,fun b h=>.inr h,fun b h hn=>d b h (t2 b hn)⟩,fun b h=>s2 b (t1 b h),fun b h=>h.elim (s1 b) (fun h=>s2 b (t2 b h)),
   fun b h hn=>hn.elim (fun hn=>d b hn (t1 b h)) (e b h)⟩
theorem Own.put (hp:Put l r r' l') (h:Own S W w l) (k:∀l0,Own S W w (r::l0)→Own S W w' (r'::l0)):Own S W w' l':=by
 obtain ⟨l0,h1,h2⟩:=hp.pick;obtain ⟨hc,M,Z,hs,rest⟩:=k l0 (h.pick h1);exact ⟨hc,M,Z,h2 _ _ _ hs,rest⟩
theorem Own.set {b i:Nat} {v:Value} {cs:List Value} {t:TypeId} (h:Own S W w l) (hp:Put l (Var b cs t) (Var b (cs.set i v) t) l'):Own S W (w.setCell ⟨b,i,none⟩ v) l':=
 h.put hp fun l0 h=>by
  obtain ⟨M,Z,⟨h1,h2⟩,h3,_,k⟩:=h.turn1;refine k _ _ M ((Chg.setCell w ⟨b,i,none⟩ v).mono fun k hk=>by rw [show k=b from hk];exact h2) (fun b h=>.inl h) (fun b hb=>by simpa [World.setCell] using (h3 b hb).1) ⟨?_,h2⟩;simp [World.setCell,Array.getElem?_modify,h1]
theorem Own.rowAt {e:TypeId} {size n cap:Nat} {a:Option Addr} {xs:List Value} (h:Own S W w l) (hp:Pick l (Row2 e size a n cap xs) l') (hn:0<n):∃g,a=some ⟨g,0,none⟩∧(∀k,w.frozen? ⟨g,k,none⟩=false)∧g<w.heap.size:=by
 obtain ⟨M,Z,⟨h1,_⟩,_⟩:=(h.pick hp).turn1;rcases h1.2 with ⟨_,h0⟩ | ⟨g,c,cur,hv,_,hg,_⟩
 ·omega
 ·injection hv with h2 _ _
  exact ⟨g,h2,fun k=>by simp [World.frozen?,hg],(Array.getElem?_eq_some_iff.1 hg).1⟩
theorem Own.rowLen {e:TypeId} {size n cap:Nat} {a:Option Addr} {xs:List Value} (h:Own S W w l) (hp:Pick l (Row2 e size a n cap xs) l'):xs.length=n*size∧n≤cap∧cap≤maxLen:=by
 obtain ⟨M,Z,⟨h1,_⟩,_⟩:=(h.pick hp).turn1;rcases h1.2 with ⟨hv,h0⟩ | ⟨g,c,cur,hv,_,_,h3,h4,_⟩
 ·injection hv with _ _ h2
  exact ⟨h1.1,by omega,by rw [h2];exact Nat.zero_le _⟩
 ·injection hv with _ _ h2
  exact ⟨h1.1,by omega,by omega⟩
theorem Own.rowNil {e:TypeId} {size n cap:Nat} {xs:List Value} (h:Own S W w l) (hp:Pick l (Row2 e size none n cap xs) l'):n=0∧cap=0:=by
 obtain ⟨M,Z,⟨h1,_⟩,_⟩:=(h.pick hp).turn1;rcases h1.2 with ⟨hv,h0⟩ | ⟨g,c,cur,hv,_⟩
 ·injection hv with _ _ h2;exact ⟨h0,h2⟩
 ·cases hv
theorem zNc {α:Type} {l:List α} {i k:Nat} {v:α} (h:i<k):(l.set i v).take k=(l.take k).set i v:=by
 apply List.ext_getElem?;intro j;rw [List.getElem?_take];by_cases hj:j<k
 ·rw [if_pos hj,List.getElem?_set,List.getElem?_set,List.getElem?_take,if_pos hj,List.length_take];by_cases hij:i=j
  ·subst hij;simp only [if_true];by_cases hl:i<l.length
   ·rw [if_pos hl,if_pos (by omega)]
   ·rw [if_neg hl,if_neg (by omega)]
  ·rw [if_neg hij,if_neg hij]
 ·rw [if_neg hj,List.getElem?_eq_none (by simp;omega)]
theorem Own.setRow {g i:Nat} {v:Value} {e:TypeId} {size n cap:Nat} {xs:List Value} (h:Own S W w l) (hp:Put l (Row2 e size (some ⟨g,0,none⟩) n cap xs) (Row2 e size (some ⟨g,0,none⟩) n cap (xs.set i v)) l') (hi:i<xs.length):Own S W (w.setCell ⟨g,i,none⟩ v) l':=
 h.put hp fun l0 h=>by
  obtain ⟨M,Z,⟨h1,h2⟩,h3,_,k⟩:=h.turn1;have hg:M g:=h2 g rfl;refine k _ _ M ((Chg.setCell w ⟨g,i,none⟩ v).mono fun k hk=>by rw [show k=g from hk];exact hg) (fun b h=>.inl h) (fun b hb=>by simpa [World.setCell] using (h3 b hb).1) ⟨⟨by rw [List.length_set];exact h1.1,?_⟩,h2⟩;rcases h1.2 with ⟨hv,_⟩ | ⟨g',c,cur,hv,hb,hgg,hnc,hcm,hcs,ht⟩
  ·cases hv
  ·injection hv with q1 q2 q3
   injection q1 with q1
   injection q1 with q1
   subst q1;subst q3;refine .inr ⟨g,cap,cur.setIfInBounds i v,rfl,hb,by simp [World.setCell,Array.getElem?_modify,hgg],hnc,hcm,by simpa using hcs,?_⟩;rw [Array.toList_setIfInBounds,zNc (by rw [←h1.1];exact hi),ht]
theorem Own.quiet {P:Program} {f:FuncId} {args:Array Value} {Q:Ending→World→Prop} {e0:Ending} (h:Own S W w l) (hc:Calls P f args w fun e w'=>e=e0∧Ext w w')
 (k:∀w',Ext w w'→Own S W w' l→Q e0 w'):Calls P f args w Q:=
 hc.mono fun e w' ⟨he,hx⟩=>by subst he;exact k w' hx (h.ext hx)
end
def zTu {α:Type} (S:Nat→Prop) (W:World) (L0:List Rs) (R:α→Value×List Rs) (e:Ending) (w':World):Prop:=∃x,e=.returned (R x).1∧Own S W w' ((R x).2++L0)
def Does {α:Type} (P:Program) (f:FuncId) (args:Array Value) (L:List Rs) (R:α→Value×List Rs):Prop:=
 ∀(S:Nat→Prop) (W w:World) (L0:List Rs),Own S W w (L++L0)→Calls P f args w (zTu S W L0 R)
theorem Does.use {α:Type} {P:Program} {f:FuncId} {args:Array Value} {L Lc L0:List Rs} {R:α→Value×List Rs} {S:Nat→Prop} {W w:World} {Q:Ending→World→Prop} (hO:Own S W w Lc) (hc:Does P f args L R) (ht:Takes Lc L L0)
 (k:∀x w',Own S W w' ((R x).2++L0)→Q (.returned (R x).1) w'):Calls P f args w Q:=
 (hc S W w L0 (hO.take ht)).mono fun e w' ⟨x,he,h⟩=>by subst he;exact k x w' h
def Reads (P:Program) (f:FuncId) (args:Array Value) (L:List Rs) (v:Value):Prop:=
 ∀(w:World) (L0:List Rs),Own (fun _=>False) w w (L.map .frz++L0)→Calls P f args w fun e w'=>e=.returned v∧Ext w w'
theorem Reads.use {P:Program} {f:FuncId} {args:Array Value} {L Lc L0:List Rs} {v:Value} {S:Nat→Prop} {W w:World} {Q:Ending→World→Prop} (hO:Own S W w Lc) (hc:Reads P f args L v) (ht:Takes Lc L L0)
 (k:∀w',Ext w w'→Own S W w' Lc→Q (.returned v) w'):Calls P f args w Q:=by
 have h1:=(hO.take ht).frz;rw [List.map_append] at h1;exact (hc w _ h1).mono fun e w' ⟨he,hx⟩=>by subst he;exact k w' hx (hO.ext hx)
section
variable {P:Program} {S:Nat→Prop} {W w:World} {l l':List Rs} {ops:Array Oper} {rest:List Oper} {a:Act} {Q:Exit→Act→World→Prop} {c:Code}
theorem zHz {cs:List Value} {t:TypeId} (hO:Own S W w l) (k:∀w',Own S W w' (Var w.heap.size cs t::l)→wpList P ops Q rest a w'):wpList P ops Q rest a (w.alloc (.cells cs.toArray t)):=k _ (hO.alloc cs t)
theorem zJo {p:Addr} {v:Value} {L:List Rs} (hO:Own S W (w.setCell p v) L) (k:∀w',Own S W w' L→wpList P ops Q rest a w'):wpList P ops Q rest a (w.setCell p v):=k _ hO
theorem zIz (hO:Own S W w l) (k:∀w',Own S W w' l→wpList P ops Q rest a w'):wpList P ops Q rest a w.drew:=k _ hO.drew
theorem zMD {cs:List Value} {t:TypeId} (hO:Own S W w l) (k:∀w',Own S W w' (Var w.heap.size cs t::l)→c.wp P Q a w'):c.wp P Q a (w.alloc (.cells cs.toArray t)):=k _ (hO.alloc cs t)
theorem zPJ {p:Addr} {v:Value} {L:List Rs} (hO:Own S W (w.setCell p v) L) (k:∀w',Own S W w' L→c.wp P Q a w'):c.wp P Q a (w.setCell p v):=k _ hO
theorem zGI {fn:Func} {R:Ending→World→Prop} {x:Exit} {cs:List Value} {t:TypeId} (hO:Own S W w l) (k:∀w',Own S W w' (Var w.heap.size cs t::l)→bodyPost P fn R x a w'):bodyPost P fn R x a (w.alloc (.cells cs.toArray t)):=k _ (hO.alloc cs t)
theorem zHm {fn:Func} {R:Ending→World→Prop} {x:Exit} {p:Addr} {v:Value} {L:List Rs} (hO:Own S W (w.setCell p v) L) (k:∀w',Own S W w' L→bodyPost P fn R x a w'):bodyPost P fn R x a (w.setCell p v):=k _ hO
theorem zHE {fn:Func} {R:Ending→World→Prop} {x:Exit} (hO:Own S W w l) (k:∀w',Own S W w' l→bodyPost P fn R x a w'):bodyPost P fn R x a w.drew:=k _ hO.drew
theorem zNg (hO:Own S W w l) (k:∀w',Own S W w' l→c.wp P Q a w'):c.wp P Q a w.drew:=k _ hO.drew
theorem zCt {o:Oper} (hO:Own S W w l) {e:TypeId} {size:Nat} {va:Option Addr} {n vc:Nat} {xs:List Value} {l0:List Rs} (hp:Pick l (Row2 e size va n vc xs) l0) (hgd:o.guard=none) (s x:Operand) (t:TypeId)
 (ho:o.op=.call { callee:=.builtin .append,args:=#[s,x],argTypes:=#[t,t] })
 (i:TypeInfo) (z:Value) (bytes:Nat) (ht:P.underlying t=some (.slice e)) (hi:P.info? e=some i) (hz:i.zero=some z)
 (hsize:i.size=size) (hby:i.bytes=bytes) (hzs:z.cells.size=size) (hsz:0<size) (hs:a.eval s=.slice va n vc)
 (g off m c:Nat) (news:List Value) (hx:a.eval x=.slice (some ⟨g,off,none⟩) m c) (hl:news.length=m*size) (hnews:∀j u,news[j]?=some u→w.cell? ⟨g,off+j,none⟩=some u) (h1:∀u∈news,u.oneCell'=true)
 (h63:n+m≤maxLen) (hbytes:(n+m)*bytes≤140737488355328)
 (h:∀ka kc w',Own S W w' (Row2 e size ka (n+m) kc (xs++news)::l0)→wpList P ops Q rest (a.put o.dst (.slice ka (n+m) kc)) w'):wpList P ops Q (o::rest) a w:=by
 obtain ⟨M,Z,⟨h2,h3⟩,h4,_,k⟩:=(hO.pick hp).turn1;have hadd:∀j,(⟨g,off,none⟩:Addr).add j=⟨g,off+j,none⟩:=fun j=>by unfold Addr.add;split<;>simp_all
 obtain ⟨v',w',hr,q2,q3,q4⟩:=zJ2 (P:=P) w t o.type e i z size bytes ht hi hz hsize hby hzs hsz (.slice va n vc) n xs h2 ⟨g,off,none⟩ m c news hl (fun j u hj=>by rw [hadd];exact hnews j u hj) h1 h63 hbytes;obtain ⟨hr',hc',hf'⟩:=Row.grown (F:=fun b=>(Value.slice va n vc).ownBlock=some b) ⟨h2,fun _=>Iff.rfl⟩ q2 q3 q4;obtain ⟨ka,kc,rfl⟩:=Row.shape hr';refine wpList_plain hgd fun K hK=>?_
 unfold Oper.wp execOp;simp only [ho,resolve,invoke,builtin,Sem.run_bind,Sem.run_pure,Result.andThen_ok,List.map_toArray,List.map_cons,List.map_nil,hs,hx,hr];exact hK _ _ (h ka kc w' (k w' _ (fun b=>(Value.slice ka (n+m) kc).ownBlock=some b) (hc'.mono h3) (fun b hb=>(hf' b hb).imp (h3 b) id) (fun b hb=>(Row _ _ _ _ _).here hr' hb) ⟨hr'.1,fun b hb=>hb⟩))
end
theorem tk_ {l rs l0:List Rs} (h:Takes l rs l0:=by repeat (first | with_reducible exact Takes.nil _ | with_reducible apply Takes.cons | with_reducible exact Pick.here _ _ | with_reducible apply Pick.there)):Takes l rs l0:=h
theorem pk_ {l l':List Rs} {r:Rs} (h:Pick l r l':=by repeat (first | with_reducible exact Pick.here _ _ | with_reducible apply Pick.there)):Pick l r l':=h
theorem FZ:(∀w,zDo w []=True)∧(∀w r l,zDo w (r::l)=(r.facts w∧zDo w l))∧(∀w b cs t,(Var b cs t).facts w=(BoxF w b 0 cs∧(∀k,w.frozen? ⟨b,k,none⟩=false)∧b<w.heap.size))∧
 (∀w b i v,BoxF w b i [v]=(w.cell? ⟨b,i,none⟩=some v))∧(∀w b i v u l,BoxF w b i (v::u::l)=(w.cell? ⟨b,i,none⟩=some v∧BoxF w b (i+1) (u::l)))∧
 (∀w e size a n cap xs,(Row2 e size a n cap xs).facts w=(ValsAt w a xs∧zJx w a))∧(∀w g o s,zJx w (some ⟨g,o,s⟩)=∀k,w.frozen? ⟨g,k,none⟩=false)∧
 (∀w φ,(Rs.imm φ).facts w=φ w)∧(∀w r,(Rs.frz r).facts w=r.facts w)∧(∀w p,(Rs.pure p).facts w=p)∧(∀w l,(Rs.many l).facts w=zDo w l)∧
 (∀n:Nat,0+n=n)∧(∀p:Prop,(p∧True)=p)∧(∀p:Prop,(True∧p)=p)∧(∀{α β:Type} (f:α→β) (a:α) (l:List α),List.map f (a::l)=f a::List.map f l)∧(∀{α β:Type} (f:α→β),List.map f []=[])∧
 (∀{α:Type} (a:α) (l m:List α),(a::l)++m=a::(l++m))∧(∀{α:Type} (l:List α),[]++l=l):=
 ⟨fun _=>rfl,fun _ _ _=>rfl,fun _ _ _ _=>rfl,fun _ _ _ _=>rfl,fun _ _ _ _ _ _=>rfl,fun _ _ _ _ _ _ _=>rfl,fun _ _ _ _=>rfl,fun _ _=>rfl,fun _ _=>rfl,fun _ _=>rfl,fun _ _=>rfl,Nat.zero_add,and_true,true_and,fun _ _ _=>rfl,fun _=>rfl,fun _ _ _=>rfl,fun _=>rfl⟩
theorem CA:(∀{α:Type} (a:α) (l m:List α),(a::l)++m=a::(l++m))∧(∀{α:Type} (l:List α),[]++l=l):=⟨fun _ _ _=>rfl,fun _=>rfl⟩
section
variable {S:Nat→Prop} {W w:World} {l:List Rs}
theorem fa_ (hO:Own S W w l) {F:Prop} (h:Own S W w l→F:=by (intro hO;have hf:=hO.facts;(try simp only [FZ,Nat.reduceAdd] at hf);first | exact hf | exact hO.facts)):F:=h hO
theorem st_ {w':World} {L:List Rs} (hO:Own S W w l) (h:Own S W w l→Own S W w' L:=by
 intro hO
 first
 | (with_reducible apply Own.set;(focus (with_reducible apply hO));(repeat (first | with_reducible exact Put.here _ _ _ | with_reducible apply Put.there));done)
 | (with_reducible apply Own.setRow;(focus (with_reducible apply hO));(focus (repeat (first | with_reducible exact Put.here _ _ _ | with_reducible apply Put.there)));first | assumption | (simp;omega)|(simp;assumption))
 | ((repeat' (first | with_reducible apply hO | with_reducible apply Own.set));all_goals (repeat (first | with_reducible exact Put.here _ _ _ | with_reducible apply Put.there));done)):Own S W w' L:=h hO
theorem sy_ {T:Prop} {G:World→Prop} {l':List Rs} (hO:Own S W w l) (k:∀w',Own S W w' l'→G w') (h:Own S W w l→(∀w',Own S W w' l'→G w')→T:=by
 intro hO k
 first
 | with_reducible exact zHz hO k | with_reducible exact zIz hO k | with_reducible exact zMD hO k | with_reducible exact zNg hO k | with_reducible exact zGI hO k | with_reducible exact zHE hO k
 | ((first | with_reducible refine zJo ?_ k | with_reducible refine zPJ ?_ k | with_reducible refine zHm ?_ k);exact st_ hO)):T:=h hO k
end
theorem zD0 (m:Nat):m=0∨m=1∨m=2∨m=3∨m=4∨∃n,m=n+5:=by
 match m with
 | 0=>exact .inl rfl
 | 1=>exact .inr (.inl rfl)
 | 2=>exact .inr (.inr (.inl rfl))
 | 3=>exact .inr (.inr (.inr (.inl rfl)))
 | 4=>exact .inr (.inr (.inr (.inr (.inl rfl))))
 | n+5=>exact .inr (.inr (.inr (.inr (.inr ⟨n,rfl⟩))))
section
variable {P:Program} {ops:Array Oper} {md:Region.Mode} {I:World→Prop}
def Sees (P:Program) (ops:Array Oper) (I:World→Prop) (o:Oper) (a:Act) (v:Value):Prop:=
 ∀w',I w'→(Region.wanted o (yielded ops a.tmps)=true∧(execOp a.eval o).run P w'=.ok (.value v) w')∨(Region.wanted o (yielded ops a.tmps)=false∧v=undef)
theorem Sees.of_same {o:Oper} {a a':Act} {v:Value} (h:Sees P ops I o a v) (he:execOp a'.eval o=execOp a.eval o)
 (hw:Region.wanted o (yielded ops a'.tmps)=Region.wanted o (yielded ops a.tmps)):Sees P ops I o a' v:=by
 intro w' hx;rw [he,hw];exact h w' hx
theorem Sees.wpOp {Q:Exit→Act→World→Prop} {i:Nat} {o:Oper} {v:Value} {a:Act} {w:World} (hi:ops[i]?=some o) (hI:I w) (hy:Sees P ops I o a v)
 {K:Act→World→Prop} (h:K (a.put o.dst v) w):wpOp P ops Q i K a w:=by
 unfold Go.wpOp;simp only [hi];rcases hy w hI with ⟨hw,hv⟩ | ⟨hw,rfl⟩
 ·simp only [hw,if_true,Oper.wp,hv,Oper.upon];exact .inl h
 ·simp only [hw,Bool.false_eq_true,if_false];exact h
theorem Sees.put_back {oi oj:Oper} {v u:Value} {a:Act} (hap:oi.apart ops oj=true) (hsj:∀cs b,oj.op≠.select cs b)
 (hy:Sees P ops I oj (a.put oi.dst v) u):Sees P ops I oj a u:=by
 obtain ⟨h1,_,_⟩:=Oper.apart_spec hap;exact hy.of_same (execOp_put oj hsj a oi.dst v h1).symm (wanted_put oj a oi.dst v h1).symm
theorem Sees.put_on {oi oj:Oper} {v u:Value} {a:Act} (hap:oi.apart ops oj=true) (hsi:∀cs b,oi.op≠.select cs b)
 (hy:Sees P ops I oi a v):Sees P ops I oi (a.put oj.dst u) v:=by
 obtain ⟨_,_,h3⟩:=Oper.apart_spec hap;exact hy.of_same (execOp_put oi hsi a oj.dst u h3) (wanted_put oi a oj.dst u h3)
theorem Sees.unique {o:Oper} {u u2:Value} {a:Act} {w:World} (hI:I w) (hu:Sees P ops I o a u) (hu2:Sees P ops I o a u2):u=u2:=by
 rcases hu w hI with ⟨k1,k2⟩ | ⟨k1,rfl⟩<;>rcases hu2 w hI with ⟨k3,k4⟩ | ⟨k3,rfl⟩
 ·have:=k2.symm.trans k4;injection this with h5;injection h5
 ·rw [k1] at k3;cases k3
 ·rw [k1] at k3;cases k3
 ·rfl
def zPF (P:Program) (ops:Array Oper) (I:World→Prop) (Q:Exit→Act→World→Prop) (m:Nat) (j:Nat) (oj:Oper) (K:Act→World→Prop) (a:Act) (w:World):Prop:=
 match m with
 | 0=>∃v,Yields P ops oj v a∧K (a.put oj.dst v) w
 | 1=>∃v,Looks P ops oj a w v∧K (a.put oj.dst v) w
 | 2=>∃v,Sees P ops I oj a v∧K (a.put oj.dst v) w
 | 3=>∃v,Gives P ops oj a w v∧∀w',Ext w w'→K (a.put oj.dst v) w'
 | 4=>wpOp P ops Q j (fun a' w'=>Ext w w'∧K a' w') a w
 | _=>wpOp P ops Q j (fun a' w'=>I w'∧K a' w') a w
def opR (P:Program) (ops:Array Oper) (I:World→Prop) (Q:Exit→Act→World→Prop) (m:Nat) (i:Nat) (K:Act→World→Prop) (a:Act) (w:World):Prop:=
 match ops[i]? with
 | none=>K a w
 | some o=>zPF P ops I Q m i o K a w
theorem zBJ {Q:Exit→Act→World→Prop} {m:Nat} {j:Nat} {oj:Oper} {K:Act→World→Prop} {a:Act} {w:World} (hj:ops[j]?=some oj)
 (h:zPF P ops I Q m j oj K a w):opR P ops I Q m j K a w:=by
 unfold opR;simp only [hj];exact h
theorem zFc {Q:Exit→Act→World→Prop} {m:Nat} {j:Nat} {oj:Oper} {K:Act→World→Prop} {a:Act} {w:World} (hj:ops[j]?=some oj)
 (h:opR P ops I Q m j K a w):zPF P ops I Q m j oj K a w:=by
 unfold opR at h;simp only [hj] at h;exact h
theorem zPh (hIx:∀w w',I w→Ext w w'→I w') {Q:Exit→Act→World→Prop} {m:Nat} {i:Nat} {K:Act→World→Prop} {a:Act} {w:World} (hI:I w)
 (hh:opR P ops I Q m i K a w):wpOp P ops Q i (fun a w=>I w∧K a w) a w:=by
 unfold opR at hh;split at hh
 ·rename_i ho;unfold wpOp;simp only [ho];exact ⟨hI,hh⟩
 ·rename_i o ho;rcases zD0 m with rfl | rfl | rfl | rfl | rfl | ⟨n,rfl⟩
  ·obtain ⟨v,hy,hk⟩:=hh;exact hy.wpOp ho ⟨hI,hk⟩
  ·obtain ⟨v,hy,hk⟩:=hh;exact hy.wpOp ho ⟨hI,hk⟩
  ·obtain ⟨v,hy,hk⟩:=hh;exact hy.wpOp ho hI ⟨hI,hk⟩
  ·obtain ⟨v,hy,hk⟩:=hh;have h2:opT P ops Q 2 i (fun a w'=>Ext w w'∧K a w') a w:=zPm ho ⟨v,hy,fun w' hw'=>⟨hw',hk w' hw'⟩⟩;exact wpOp_mono (fun a w' hk=>⟨hIx _ _ hI hk.1,hk.2⟩) (zQp h2)
  ·have h1:wpOp P ops Q i (fun a' w'=>Ext w w'∧K a' w') a w:=hh;exact wpOp_mono (fun a w hk=>⟨hIx _ _ hI hk.1,hk.2⟩) h1
  ·exact hh
def anyR (P:Program) (md:Region.Mode) (ops:Array Oper) (I:World→Prop) (mk:Nat→Nat) (Q:Exit→Act→World→Prop):Nat→Array Bool→Act→World→Prop
 | 0,listed,a,w=>Region.ready md ops listed=[]∧Q .normal a w
 | fuel+1,listed,a,w=>
  (Region.ready md ops listed=[]→Q .normal a w)∧
  ∀i∈Region.ready md ops listed,opR P ops I Q (mk i) i (anyR P md ops I mk Q fuel (listed.setIfInBounds i true)) a w
theorem zDk (hIx:∀w w',I w→Ext w w'→I w') {mk:Nat→Nat} {Q:Exit→Act→World→Prop}:∀(fuel:Nat) (listed:Array Bool) (a:Act) (w:World),I w→
 anyR P md ops I mk Q fuel listed a w→wpAny P md ops Q fuel listed a w
 | 0,_,_,_,_,h=>h
 | fuel+1,_,_,_,hI,h=>⟨h.1,fun i hi=>wpOp_mono (fun a' w' hk=>zDk hIx fuel _ a' w' hk.1 hk.2) (zPh hIx hI (h.2 i hi))⟩
theorem zKs {mk:Nat→Nat} {Q:Exit→Act→World→Prop} {i:Nat} {oi:Oper} {v:Value} (hi:ops[i]?=some oi) (hmi:mk i=0)
 (hsel:∀(j:Nat) (o:Oper) cs b,ops[j]?=some o→o.op≠.select cs b)
 (hQ:∀c a w,Q (.panic c) (a.put oi.dst v) w→Q (.panic c) a w) :
 ∀(fuel:Nat) (listed:Array Bool) (a:Act) (w:World),FreeOf ops md listed i oi→
  i∈Region.ready md ops listed→Yields P ops oi v a→
  anyR P md ops I mk Q fuel (listed.setIfInBounds i true) (a.put oi.dst v) w→anyR P md ops I mk Q (fuel+1) listed a w:=by
 intro fuel
 induction fuel with
 | zero=>
  intro listed a w _ hr hy H;refine ⟨fun h=>(by rw [h] at hr;cases hr),fun j hj=>?_⟩;by_cases hji:j=i
  ·subst hji;exact zBJ hi (by rw [hmi];exact ⟨v,hy,H⟩)
  ·have:=ready_mono hj hji;rw [H.1] at this;cases this
 | succ fuel ih=>
  intro listed a w hfree hr hy H;refine ⟨fun h=>(by rw [h] at hr;cases hr),fun j hj=>?_⟩;by_cases hji:j=i
  ·subst hji;exact zBJ hi (by rw [hmi];exact ⟨v,hy,H⟩)
  ·obtain ⟨hjun,oj,hoj,hall⟩:=mem_ready.1 hj;have hrun:=(mem_ready.1 hr).1;have h1:=zFc hoj (H.2 j (ready_mono hj hji));have hap:=hfree j oj hoj hji hjun (zCp hrun hall);have hsj:=fun cs b=>hsel j oj cs b
   obtain ⟨_,h2,_⟩:=Oper.apart_spec hap;have step:∀(a:Act) (u:Value) (w:World),Yields P ops oi v (a.put oj.dst u)→anyR P md ops I mk Q fuel ((listed.setIfInBounds i true).setIfInBounds j true) ((a.put oi.dst v).put oj.dst u) w→
    anyR P md ops I mk Q (fuel+1) (listed.setIfInBounds j true) (a.put oj.dst u) w:=fun a u w hy' h=>by
    refine ih (listed.setIfInBounds j true) (a.put oj.dst u) w (hfree.set hjun) (ready_mono hr (Ne.symm hji)) hy' ?_;rw [Array.setIfInBounds_comm _ _ hji,←Act.put_comm a v u h2];exact h
   refine zBJ hoj ?_;have hon:=fun (a:Act) (u:Value) (hy:Yields P ops oi v a)=>Yields.put_on (u:=u) hap (fun cs b=>hsel i oi cs b hi) hy
   rcases zD0 (mk j) with hm | hm | hm | hm | hm | ⟨n,hm⟩<;>rw [hm] at h1 ⊢
   ·obtain ⟨u,hu,hk⟩:=h1;exact ⟨u,Yields.put_back hap (fun cs b=>hsj cs b hoj) hu,step a u w (hon a u hy) hk⟩
   ·obtain ⟨u,hu,hk⟩:=h1;exact ⟨u,Looks.put_back hap (fun cs b=>hsj cs b hoj) hu,step a u w (hon a u hy) hk⟩
   ·obtain ⟨u,hu,hk⟩:=h1;exact ⟨u,Sees.put_back hap (fun cs b=>hsj cs b hoj) hu,step a u w (hon a u hy) hk⟩
   ·obtain ⟨u,hu,hk⟩:=h1;obtain ⟨u',hu',he⟩:=Gives.put_back hap (fun cs b=>hsj cs b hoj) hu;exact ⟨u',hu',fun w' hw'=>step a u' w' (hon a u' hy) (by rw [he];exact hk w' hw')⟩
   ·have h5:wpOp P ops Q j (fun a' w'=>Ext w w'∧_) _ w:=h1;show wpOp P ops Q j (fun a' w'=>Ext w w'∧_) a w;have h3:=wpOp_put (Q:=Q) hoj hap (fun cs b=>hsel i oi cs b hi) (fun cs b=>hsj cs b hoj) hQ hy h5;refine wpOp_mono (fun a' w' h4=>?_) h3;refine ⟨h4.2.1,?_⟩;refine ih (listed.setIfInBounds j true) a' w' (hfree.set hjun) (ready_mono hr (Ne.symm hji)) h4.1 ?_;rw [Array.setIfInBounds_comm _ _ hji];exact h4.2.2
   ·have h5:wpOp P ops Q j (fun a' w'=>I w'∧_) _ w:=h1;show wpOp P ops Q j (fun a' w'=>I w'∧_) a w;have h3:=wpOp_put (Q:=Q) hoj hap (fun cs b=>hsel i oi cs b hi) (fun cs b=>hsj cs b hoj) hQ hy h5;refine wpOp_mono (fun a' w' h4=>?_) h3;refine ⟨h4.2.1,?_⟩;refine ih (listed.setIfInBounds j true) a' w' (hfree.set hjun) (ready_mono hr (Ne.symm hji)) h4.1 ?_;rw [Array.setIfInBounds_comm _ _ hji];exact h4.2.2
theorem zPV (hIx:∀w w',I w→Ext w w'→I w') {mk:Nat→Nat} {Q:Exit→Act→World→Prop} {i:Nat} {oi:Oper} {v:Value} (hi:ops[i]?=some oi) (hmi:mk i=3)
 (hsel:∀(j:Nat) (o:Oper) cs b,ops[j]?=some o→o.op≠.select cs b) (hah:zPb ops md mk 4 i) :
 ∀(fuel:Nat) (listed:Array Bool) (a:Act) (w:World),I w→FreeOf ops md listed i oi→Closed ops md listed→
  i∈Region.ready md ops listed→Gives P ops oi a w v→
  (∀w',Ext w w'→anyR P md ops I mk Q fuel (listed.setIfInBounds i true) (a.put oi.dst v) w')→anyR P md ops I mk Q (fuel+1) listed a w:=by
 intro fuel
 induction fuel with
 | zero=>
  intro listed a w _ _ _ hr hy H;refine ⟨fun h=>(by rw [h] at hr;cases hr),fun j hj=>?_⟩;by_cases hji:j=i
  ·subst hji;exact zBJ hi (by rw [hmi];exact ⟨v,hy,H⟩)
  ·have:=ready_mono hj hji;rw [(H w (Ext.refl w)).1] at this;cases this
 | succ fuel ih=>
  intro listed a w hI hfree hcl hr hy H;refine ⟨fun h=>(by rw [h] at hr;cases hr),fun j hj=>?_⟩;by_cases hji:j=i
  ·subst hji;exact zBJ hi (by rw [hmi];exact ⟨v,hy,H⟩)
  ·obtain ⟨hjun,oj,hoj,hall⟩:=mem_ready.1 hj;have hrun:=(mem_ready.1 hr).1;have h1:=fun w' hw'=>zFc hoj ((H w' hw').2 j (ready_mono hj hji))
   have hap:=hfree j oj hoj hji hjun (zCp hrun hall);have hsj:=fun cs b=>hsel j oj cs b
   obtain ⟨_,h2,_⟩:=Oper.apart_spec hap;have step:∀(u:Value) (w':World),Ext w w'→(∀w'',Ext w' w''→anyR P md ops I mk Q fuel ((listed.setIfInBounds i true).setIfInBounds j true) ((a.put oi.dst v).put oj.dst u) w'')→
    anyR P md ops I mk Q (fuel+1) (listed.setIfInBounds j true) (a.put oj.dst u) w':=fun u w' hw' h=>by
    refine ih (listed.setIfInBounds j true) (a.put oj.dst u) w' (hIx _ _ hI hw') (hfree.set hjun) (hcl.set hj) (ready_mono hr (Ne.symm hji)) ((Gives.put_on hap (fun cs b=>hsel i oi cs b hi) hy).ext hw') ?_;intro w'' hw'';rw [Array.setIfInBounds_comm _ _ hji,←Act.put_comm a v u h2];exact h w'' hw''
   refine zBJ hoj ?_;have hlt:=hah listed j hrun hcl hj;rcases zD0 (mk j) with hm | hm | hm | hm | hm | ⟨n,hm⟩
   ·simp only [hm] at h1 ⊢;obtain ⟨u,hu,hk⟩:=h1 w (Ext.refl w);refine ⟨u,Yields.put_back hap (fun cs b=>hsj cs b hoj) hu,step u w (Ext.refl w) fun w'' hw''=>?_⟩;obtain ⟨u2,hu2,hk2⟩:=h1 w'' hw'';rw [Yields.unique hu hu2 w];exact hk2
   ·simp only [hm] at h1 ⊢;obtain ⟨u,hu,hk⟩:=h1 w (Ext.refl w);refine ⟨u,Looks.put_back hap (fun cs b=>hsj cs b hoj) hu,step u w (Ext.refl w) fun w'' hw''=>?_⟩;obtain ⟨u2,hu2,hk2⟩:=h1 w'' hw'';have:u=u2:=by
     rcases hu w'' hw'' with ⟨k1,k2⟩ | ⟨k1,rfl⟩<;>rcases hu2 w'' (Ext.refl _) with ⟨k3,k4⟩ | ⟨k3,rfl⟩
     ·have:=k2.symm.trans k4;injection this with h5;injection h5
     ·rw [k1] at k3;cases k3
     ·rw [k1] at k3;cases k3
     ·rfl
    rw [this];exact hk2
   ·simp only [hm] at h1 ⊢;obtain ⟨u,hu,hk⟩:=h1 w (Ext.refl w);refine ⟨u,Sees.put_back hap (fun cs b=>hsj cs b hoj) hu,step u w (Ext.refl w) fun w'' hw''=>?_⟩;obtain ⟨u2,hu2,hk2⟩:=h1 w'' hw'';rw [Sees.unique hI hu hu2];exact hk2
   ·simp only [hm] at h1 ⊢;obtain ⟨u,hu,hk⟩:=h1 w (Ext.refl w);obtain ⟨u',hu',he⟩:=Gives.put_back hap (fun cs b=>hsj cs b hoj) hu;exact ⟨u',hu',fun w' hw'=>step u' w' hw' (fun w'' hw''=>by rw [he];exact hk w'' (hw'.trans hw''))⟩
   ·omega
   ·omega
theorem zQL {mk:Nat→Nat} {Q:Exit→Act→World→Prop} {i:Nat} {oi:Oper} {v:Value} (hi:ops[i]?=some oi) (hmi:mk i=1)
 (hsel:∀(j:Nat) (o:Oper) cs b,ops[j]?=some o→o.op≠.select cs b) (hah:zPb ops md mk 5 i) (hQ:∀c a w,Q (.panic c) (a.put oi.dst v) w→Q (.panic c) a w) :
 ∀(fuel:Nat) (listed:Array Bool) (a:Act) (w:World),FreeOf ops md listed i oi→Closed ops md listed→
  i∈Region.ready md ops listed→Looks P ops oi a w v→
  anyR P md ops I mk Q fuel (listed.setIfInBounds i true) (a.put oi.dst v) w→anyR P md ops I mk Q (fuel+1) listed a w:=by
 intro fuel
 induction fuel with
 | zero=>
  intro listed a w _ _ hr hy H;refine ⟨fun h=>(by rw [h] at hr;cases hr),fun j hj=>?_⟩;by_cases hji:j=i
  ·subst hji;exact zBJ hi (by rw [hmi];exact ⟨v,hy,H⟩)
  ·have:=ready_mono hj hji;rw [H.1] at this;cases this
 | succ fuel ih=>
  intro listed a w hfree hcl hr hy H;refine ⟨fun h=>(by rw [h] at hr;cases hr),fun j hj=>?_⟩;by_cases hji:j=i
  ·subst hji;exact zBJ hi (by rw [hmi];exact ⟨v,hy,H⟩)
  ·obtain ⟨hjun,oj,hoj,hall⟩:=mem_ready.1 hj;have hrun:=(mem_ready.1 hr).1;have h1:=zFc hoj (H.2 j (ready_mono hj hji));have hap:=hfree j oj hoj hji hjun (zCp hrun hall);have hsj:=fun cs b=>hsel j oj cs b
   obtain ⟨_,h2,_⟩:=Oper.apart_spec hap;have step:∀(a:Act) (u:Value) (w:World),Looks P ops oi (a.put oj.dst u) w v→anyR P md ops I mk Q fuel ((listed.setIfInBounds i true).setIfInBounds j true) ((a.put oi.dst v).put oj.dst u) w→
    anyR P md ops I mk Q (fuel+1) (listed.setIfInBounds j true) (a.put oj.dst u) w:=fun a u w hy' h=>by
    refine ih (listed.setIfInBounds j true) (a.put oj.dst u) w (hfree.set hjun) (hcl.set hj) (ready_mono hr (Ne.symm hji)) hy' ?_;rw [Array.setIfInBounds_comm _ _ hji,←Act.put_comm a v u h2];exact h
   refine zBJ hoj ?_;have hon:=fun (a:Act) (u:Value) (w:World) (hy:Looks P ops oi a w v)=>Looks.put_on (u:=u) hap (fun cs b=>hsel i oi cs b hi) hy
   have hlt:=hah listed j hrun hcl hj;rcases zD0 (mk j) with hm | hm | hm | hm | hm | ⟨n,hm⟩
   ·rw [hm] at h1 ⊢;obtain ⟨u,hu,hk⟩:=h1;exact ⟨u,Yields.put_back hap (fun cs b=>hsj cs b hoj) hu,step a u w (hon a u w hy) hk⟩
   ·rw [hm] at h1 ⊢;obtain ⟨u,hu,hk⟩:=h1;exact ⟨u,Looks.put_back hap (fun cs b=>hsj cs b hoj) hu,step a u w (hon a u w hy) hk⟩
   ·rw [hm] at h1 ⊢;obtain ⟨u,hu,hk⟩:=h1;exact ⟨u,Sees.put_back hap (fun cs b=>hsj cs b hoj) hu,step a u w (hon a u w hy) hk⟩
   ·rw [hm] at h1 ⊢;obtain ⟨u,hu,hk⟩:=h1;obtain ⟨u',hu',he⟩:=Gives.put_back hap (fun cs b=>hsj cs b hoj) hu;exact ⟨u',hu',fun w' hw'=>step a u' w' (hon a u' w' (hy.ext hw')) (by rw [he];exact hk w' hw')⟩
   ·rw [hm] at h1 ⊢;have h5:wpOp P ops Q j (fun a' w'=>Ext w w'∧_) _ w:=h1;show wpOp P ops Q j (fun a' w'=>Ext w w'∧_) a w;have h3:=zFt (Q:=Q) hoj hap (fun cs b=>hsel i oi cs b hi) (fun cs b=>hsj cs b hoj) hQ h5;refine wpOp_mono (fun a' w' h4=>⟨h4.2.1,?_⟩) h3;refine ih (listed.setIfInBounds j true) a' w' (hfree.set hjun) (hcl.set hj) (ready_mono hr (Ne.symm hji)) ((hy.of_same h4.1.1 h4.1.2).ext h4.2.1) ?_;rw [Array.setIfInBounds_comm _ _ hji];exact h4.2.2
   ·omega
theorem zMa {mk:Nat→Nat} {Q:Exit→Act→World→Prop} {i:Nat} {oi:Oper} {v:Value} (hi:ops[i]?=some oi) (hmi:mk i=2)
 (hsel:∀(j:Nat) (o:Oper) cs b,ops[j]?=some o→o.op≠.select cs b) (hQ:∀c a w,Q (.panic c) (a.put oi.dst v) w→Q (.panic c) a w) :
 ∀(fuel:Nat) (listed:Array Bool) (a:Act) (w:World),FreeOf ops md listed i oi→
  i∈Region.ready md ops listed→Sees P ops I oi a v→
  anyR P md ops I mk Q fuel (listed.setIfInBounds i true) (a.put oi.dst v) w→anyR P md ops I mk Q (fuel+1) listed a w:=by
 intro fuel
 induction fuel with
 | zero=>
  intro listed a w _ hr hy H;refine ⟨fun h=>(by rw [h] at hr;cases hr),fun j hj=>?_⟩;by_cases hji:j=i
  ·subst hji;exact zBJ hi (by rw [hmi];exact ⟨v,hy,H⟩)
  ·have:=ready_mono hj hji;rw [H.1] at this;cases this
 | succ fuel ih=>
  intro listed a w hfree hr hy H;refine ⟨fun h=>(by rw [h] at hr;cases hr),fun j hj=>?_⟩;by_cases hji:j=i
  ·subst hji;exact zBJ hi (by rw [hmi];exact ⟨v,hy,H⟩)
  ·obtain ⟨hjun,oj,hoj,hall⟩:=mem_ready.1 hj;have hrun:=(mem_ready.1 hr).1;have h1:=zFc hoj (H.2 j (ready_mono hj hji));have hap:=hfree j oj hoj hji hjun (zCp hrun hall);have hsj:=fun cs b=>hsel j oj cs b
   obtain ⟨_,h2,_⟩:=Oper.apart_spec hap;have step:∀(a:Act) (u:Value) (w:World),Sees P ops I oi (a.put oj.dst u) v→anyR P md ops I mk Q fuel ((listed.setIfInBounds i true).setIfInBounds j true) ((a.put oi.dst v).put oj.dst u) w→
    anyR P md ops I mk Q (fuel+1) (listed.setIfInBounds j true) (a.put oj.dst u) w:=fun a u w hy' h=>by
    refine ih (listed.setIfInBounds j true) (a.put oj.dst u) w (hfree.set hjun) (ready_mono hr (Ne.symm hji)) hy' ?_;rw [Array.setIfInBounds_comm _ _ hji,←Act.put_comm a v u h2];exact h
   refine zBJ hoj ?_;have hon:=fun (a:Act) (u:Value) (hy:Sees P ops I oi a v)=>Sees.put_on (u:=u) hap (fun cs b=>hsel i oi cs b hi) hy
   rcases zD0 (mk j) with hm | hm | hm | hm | hm | ⟨n,hm⟩
   ·rw [hm] at h1 ⊢;obtain ⟨u,hu,hk⟩:=h1;exact ⟨u,Yields.put_back hap (fun cs b=>hsj cs b hoj) hu,step a u w (hon a u hy) hk⟩
   ·rw [hm] at h1 ⊢;obtain ⟨u,hu,hk⟩:=h1;exact ⟨u,Looks.put_back hap (fun cs b=>hsj cs b hoj) hu,step a u w (hon a u hy) hk⟩
   ·rw [hm] at h1 ⊢;obtain ⟨u,hu,hk⟩:=h1;exact ⟨u,Sees.put_back hap (fun cs b=>hsj cs b hoj) hu,step a u w (hon a u hy) hk⟩
   ·rw [hm] at h1 ⊢;obtain ⟨u,hu,hk⟩:=h1;obtain ⟨u',hu',he⟩:=Gives.put_back hap (fun cs b=>hsj cs b hoj) hu;exact ⟨u',hu',fun w' hw'=>step a u' w' (hon a u' hy) (by rw [he];exact hk w' hw')⟩
   ·rw [hm] at h1 ⊢;have h5:wpOp P ops Q j (fun a' w'=>Ext w w'∧_) _ w:=h1;show wpOp P ops Q j (fun a' w'=>Ext w w'∧_) a w;have h3:=zFt (Q:=Q) hoj hap (fun cs b=>hsel i oi cs b hi) (fun cs b=>hsj cs b hoj) hQ h5;refine wpOp_mono (fun a' w' h4=>⟨h4.2.1,?_⟩) h3;refine ih (listed.setIfInBounds j true) a' w' (hfree.set hjun) (ready_mono hr (Ne.symm hji)) (hy.of_same h4.1.1 h4.1.2) ?_;rw [Array.setIfInBounds_comm _ _ hji];exact h4.2.2
   ·rw [hm] at h1 ⊢;have h5:wpOp P ops Q j (fun a' w'=>I w'∧_) _ w:=h1;show wpOp P ops Q j (fun a' w'=>I w'∧_) a w;have h3:=zFt (Q:=Q) hoj hap (fun cs b=>hsel i oi cs b hi) (fun cs b=>hsj cs b hoj) hQ h5;refine wpOp_mono (fun a' w' h4=>⟨h4.2.1,?_⟩) h3;refine ih (listed.setIfInBounds j true) a' w' (hfree.set hjun) (ready_mono hr (Ne.symm hji)) (hy.of_same h4.1.1 h4.1.2) ?_;rw [Array.setIfInBounds_comm _ _ hji];exact h4.2.2
def zA4 (P:Program) (ops:Array Oper) (I:World→Prop) (Q:Exit→Act→World→Prop):List (Nat×Nat)→Act→World→Prop
 | [],a,w=>Q .normal a w
 | (m,i)::r,a,w=>∃o,ops[i]?=some o∧match m with
  | 0=>zC5 o.op=true∧zBG o a=true∧∃a',(∀(w:World) (K:Exit→Act→World→Prop),K .normal a' w→wpList P ops K [o] a w)∧zA4 P ops I Q r a' w
  | 1=>zCz o.op=true∧zBG o a=true∧∃a',(∀w',Ext w w'→∀K:Exit→Act→World→Prop,K .normal a' w'→wpList P ops K [o] a w')∧zA4 P ops I Q r a' w
  | 2=>zCz o.op=true∧zBG o a=true∧∃a',(∀w',I w'→∀K:Exit→Act→World→Prop,K .normal a' w'→wpList P ops K [o] a w')∧zA4 P ops I Q r a' w
  | 3=>∃a',a'.defers=a.defers∧(∀w',Ext w w'→∀K:Exit→Act→World→Prop,(∀w'',Ext w' w''→K .normal a' w'')→wpList P ops K [o] a w')∧∀w',Ext w w'→zA4 P ops I Q r a' w'
  | 4=>wpOp P ops Q i (fun a' w'=>Ext w w'∧zA4 P ops I Q r a' w') a w
  | _=>wpOp P ops Q i (fun a' w'=>I w'∧zA4 P ops I Q r a' w') a w
def runB (md:Region.Mode) (ops:Array Oper) (all:List (Nat×Nat)):List (Nat×Nat)→Array Bool→Bool
 | [],listed=>(Region.ready md ops listed).isEmpty
 | (m,i)::r,listed=>
  (match m with
   | 0=>(Region.ready md ops listed).contains i&&Region.free md ops listed i
   | 1=>(Region.ready md ops listed).contains i&&Region.free md ops listed i&&zNC md ops all 5 i
   | 2=>(Region.ready md ops listed).contains i&&Region.free md ops listed i
   | 3=>(Region.ready md ops listed).contains i&&Region.free md ops listed i&&zNC md ops all 4 i
   | _=>decide (Region.ready md ops listed=[i]))&&decide (mkOf all i=m)&&runB md ops all r (listed.setIfInBounds i true)
def zGL (md:Region.Mode) (ops:Array Oper) (ord:List (Nat×Nat)):Bool:=
 Region.noSelect ops&&runB md ops ord ord (Array.replicate ops.size false)
theorem zOc {o:Oper} {a a':Act} {w:World} (hI:I w) (hp:zCz o.op=true) (hf:zBG o a=true) (h:∀w',I w'→∀(K:Exit→Act→World→Prop),K .normal a' w'→wpList P ops K [o] a w'):∃v,Sees P ops I o a v∧a'=a.put o.dst v:=by
 have h1:=fun w' hx=>h w' hx (QK fun x y=>x=a'∧y=w') ⟨rfl,rfl⟩
 simp only [wpList] at h1;by_cases hw:Region.wanted o (yielded ops a.tmps)=true
 ·simp only [hw,if_true] at h1;have key:∀w',I w'→∃v,(execOp a.eval o).run P w'=.ok (.value v) w'∧a.put o.dst v=a':=by
   intro w' hx;rcases h1 w' hx with h2 | ⟨_,_,_,h2⟩
   case inr=>exact h2.elim
   unfold Oper.wp at h2;have hv:=@zJJ P a.eval o hp w';generalize (execOp a.eval o).run P w'=r at *;cases r with
   | ok n w'=>
    obtain ⟨v,rfl⟩:=hv rfl;simp only [Oper.upon] at h2;obtain ⟨h3,rfl⟩:=h2;exact ⟨v,rfl,h3⟩
   | halt x w'=>cases x<;>simp only [Oper.upon] at h2<;>exact h2.elim
  obtain ⟨v,_,hv⟩:=key w hI;refine ⟨v,fun w' hx=>.inl ⟨hw,?_⟩,hv.symm⟩;obtain ⟨u,hu,hu2⟩:=key w' hx;have:u=v:=by
   rcases zGU (hu2.trans hv.symm) with h3 | ⟨t,h3,h4⟩ | h3
   ·simp [zBG,h3] at hf
   ·unfold zBG at hf;rw [h3] at hf;exact absurd (of_decide_eq_true hf) (Nat.not_lt.2 h4)
   ·exact h3
  rw [←this];exact hu
 ·have h2:=h1 w hI;simp only [hw] at h2;exact ⟨undef,fun _ _=>.inr ⟨by simpa using hw,rfl⟩,h2.1.symm⟩
theorem zB4 (hIx:∀w w',I w→Ext w w'→I w') {Q:Exit→Act→World→Prop} {all:List (Nat×Nat)} (hs:Region.noSelect ops=true) (hQ:∀c a d v w,Q (.panic c) (a.put d v) w→Q (.panic c) a w) :
 ∀(ord:List (Nat×Nat)) (listed:Array Bool) (a:Act) (w:World),I w→Closed ops md listed→runB md ops all ord listed=true→zA4 P ops I Q ord a w→
  anyR P md ops I (mkOf all) Q ord.length listed a w
 | [],listed,a,w,_,_,hB,h=>⟨by simpa [runB] using hB,h⟩
 | (m,i)::r,listed,a,w,hI,hcl,hB,h=>by
  simp only [runB,Bool.and_eq_true,decide_eq_true_eq] at hB;obtain ⟨⟨hm,hmk⟩,hB'⟩:=hB;obtain ⟨o,ho,h⟩:=h;have hsel:=Region.noSelect_spec hs;rcases zD0 m with rfl | rfl | rfl | rfl | rfl | ⟨n,rfl⟩
  ·simp only [Bool.and_eq_true] at hm;obtain ⟨hp,hf,a',h1,h2⟩:=h;obtain ⟨v,hy,rfl⟩:=zKH hp hf h1;have hr:i∈Region.ready md ops listed:=by simpa using hm.1
   exact zKs ho hmk hsel (fun c a w=>hQ c a o.dst v w) r.length listed a w (Region.free_spec ho hm.2) hr hy (zB4 hIx hs hQ r _ _ _ hI (hcl.set hr) hB' h2)
  ·simp only [Bool.and_eq_true] at hm;obtain ⟨hp,hf,a',h1,h2⟩:=h;obtain ⟨v,hy,rfl⟩:=zR8 hp hf h1;have hr:i∈Region.ready md ops listed:=by simpa using hm.1.1
   exact zQL ho hmk hsel (zLu hm.2) (fun c a w=>hQ c a o.dst v w) r.length listed a w (Region.free_spec ho hm.1.2) hcl hr hy (zB4 hIx hs hQ r _ _ _ hI (hcl.set hr) hB' h2)
  ·simp only [Bool.and_eq_true] at hm;obtain ⟨hp,hf,a',h1,h2⟩:=h;obtain ⟨v,hy,rfl⟩:=zOc hI hp hf h1;have hr:i∈Region.ready md ops listed:=by simpa using hm.1
   exact zMa ho hmk hsel (fun c a w=>hQ c a o.dst v w) r.length listed a w (Region.free_spec ho hm.2) hr hy (zB4 hIx hs hQ r _ _ _ hI (hcl.set hr) hB' h2)
  ·simp only [Bool.and_eq_true] at hm;obtain ⟨a',hd,h1,h2⟩:=h;obtain ⟨v,hy,rfl⟩:=zSS hd h1;have hr:i∈Region.ready md ops listed:=by simpa using hm.1.1
   exact zPV hIx ho hmk hsel (zLu hm.2) r.length listed a w hI (Region.free_spec ho hm.1.2) hcl hr hy (fun w' hw'=>zB4 hIx hs hQ r _ _ _ (hIx _ _ hI hw') (hcl.set hr) hB' (h2 w' hw'))
  all_goals
   have hr:Region.ready md ops listed=[i]:=by simpa using hm
   refine ⟨fun h0=>(by rw [hr] at h0;cases h0),fun j hj=>?_⟩;rw [hr] at hj;have hji:j=i:=by simpa using hj
   subst hji;refine zBJ ho ?_;rw [hmk]
  ·have h':wpOp P ops Q j (fun a' w'=>Ext w w'∧zA4 P ops I Q r a' w') a w:=h;show wpOp P ops Q j (fun a' w'=>Ext w w'∧_) a w;exact wpOp_mono (fun a' w' h'=>⟨h'.1,zB4 hIx hs hQ r _ _ _ (hIx _ _ hI h'.1) (hcl.set (by rw [hr];exact List.mem_singleton.2 rfl)) hB' h'.2⟩) h'
  ·have h':wpOp P ops Q j (fun a' w'=>I w'∧zA4 P ops I Q r a' w') a w:=h;show wpOp P ops Q j (fun a' w'=>I w'∧_) a w;exact wpOp_mono (fun a' w' h'=>⟨h'.1,zB4 hIx hs hQ r _ _ _ h'.1 (hcl.set (by rw [hr];exact List.mem_singleton.2 rfl)) hB' h'.2⟩) h'
theorem zAW {id:Nat} {l:List Oper} {Q:Exit→Act→World→Prop} {a:Act} {w:World} (I:World→Prop) (hIx:∀w w',I w→Ext w w'→I w') (hI:I w) (ord:List (Nat×Nat)) (hm:P.follows .mixedOrders=true)
 (hB:zGL .any l.toArray ord=true) (hlen:ord.length=l.length) (hQ:∀c a d v w,Q (.panic c) (a.put d v) w→Q (.panic c) a w)
 (h:∀w',Ext w w'→zA4 P l.toArray I Q ord a w'):(Code.region id l.toArray true).wp P Q a w:=by
 simp only [zGL,Bool.and_eq_true] at hB;refine wp_region_any hm (zDk (mk:=mkOf ord) hIx _ _ _ _ (hIx _ _ hI (Ext.drew_self w)) ?_);have:=zB4 (md:=.any) hIx hB.1 hQ ord (Array.replicate l.toArray.size false) a w.drew (hIx _ _ hI (Ext.drew_self w))
  (fun k ok _ hl=>by rw [show (Array.replicate l.toArray.size false).getD k false=false by simp [Array.getD]] at hl;cases hl) hB.2 (h _ (Ext.drew_self w))
 rw [hlen] at this;simpa using this
theorem zAA {Q:Exit→Act→World→Prop} {a:Act} {w:World} (h:Q .normal a w):zA4 P ops I Q [] a w:=h
theorem zAG {Q:Exit→Act→World→Prop} {a:Act} {w:World} {i:Nat} {r:List (Nat×Nat)} {l:List Oper} {o:Oper} (a':Act) (ho:nth l i=some o) (hp:zC5 o.op=true) (hf:zBG o a=true)
 (h:∀(w:World) (K:Exit→Act→World→Prop),K .normal a' w→wpList P l.toArray K [o] a w) (hr:zA4 P l.toArray I Q r a' w):zA4 P l.toArray I Q ((0,i)::r) a w:=⟨o,(zBT l i).symm.trans ho,hp,hf,a',h,hr⟩
theorem zAJ {Q:Exit→Act→World→Prop} {a:Act} {w:World} {i:Nat} {r:List (Nat×Nat)} {l:List Oper} {o:Oper} (a':Act) (ho:nth l i=some o) (hp:zCz o.op=true) (hf:zBG o a=true)
 (h:∀w',Ext w w'→∀(K:Exit→Act→World→Prop),K .normal a' w'→wpList P l.toArray K [o] a w') (hr:zA4 P l.toArray I Q r a' w):zA4 P l.toArray I Q ((1,i)::r) a w:=⟨o,(zBT l i).symm.trans ho,hp,hf,a',h,hr⟩
theorem zCD {Q:Exit→Act→World→Prop} {a:Act} {w:World} {i:Nat} {r:List (Nat×Nat)} {l:List Oper} {o:Oper} (a':Act) (ho:nth l i=some o) (hp:zCz o.op=true) (hf:zBG o a=true)
 (h:∀w',I w'→∀(K:Exit→Act→World→Prop),K .normal a' w'→wpList P l.toArray K [o] a w') (hr:zA4 P l.toArray I Q r a' w):zA4 P l.toArray I Q ((2,i)::r) a w:=⟨o,(zBT l i).symm.trans ho,hp,hf,a',h,hr⟩
theorem zAL {Q:Exit→Act→World→Prop} {a:Act} {w:World} {i:Nat} {r:List (Nat×Nat)} {l:List Oper} {o:Oper} (a':Act) (ho:nth l i=some o)
 (h:∀w',Ext w w'→∀K:Exit→Act→World→Prop,(∀w'',Ext w' w''→K .normal a' w'')→wpList P l.toArray K [o] a w') (hd:a'.defers=a.defers) (hr:∀w',Ext w w'→zA4 P l.toArray I Q r a' w'):zA4 P l.toArray I Q ((3,i)::r) a w:=
 ⟨o,(zBT l i).symm.trans ho,a',hd,h,hr⟩
theorem zBt {Q:Exit→Act→World→Prop} {a:Act} {w:World} {i:Nat} {r:List (Nat×Nat)} {l:List Oper} {o:Oper} (ho:nth l i=some o)
 (h:∀K:Exit→Act→World→Prop,(∀a' w',Ext w w'→zA4 P l.toArray I Q r a' w'→K .normal a' w')→wpList P l.toArray K [o] a w):zA4 P l.toArray I Q ((4,i)::r) a w:=
 ⟨o,(zBT l i).symm.trans ho,zBA ((zBT l i).symm.trans ho) fun K hK=>h K fun a' w' h1 h2=>hK a' w' ⟨h1,h2⟩⟩
theorem zAE {Q:Exit→Act→World→Prop} {a:Act} {w:World} {i:Nat} {r:List (Nat×Nat)} {l:List Oper} {o:Oper} (ho:nth l i=some o)
 (h:∀K:Exit→Act→World→Prop,(∀a w,I w→zA4 P l.toArray I Q r a w→K .normal a w)→wpList P l.toArray K [o] a w):zA4 P l.toArray I Q ((5,i)::r) a w:=
 ⟨o,(zBT l i).symm.trans ho,zBA ((zBT l i).symm.trans ho) fun K hK=>h K fun a' w' h1 h2=>hK a' w' ⟨h1,h2⟩⟩
end
