/- Texts Map of this claim, laid together. -/
import Derived.Test.YtagcmjmcjpjihaaGreatDoorHC3
import Derived.Maps.RangeWalk
set_option linter.unusedVariables false
set_option linter.unusedSimpArgs false
set_option linter.unnecessarySimpa false
namespace Go.Proofs.YtagcmjmcjpjihaaGreatDoor
open Go.RowKit Go.MapKept
open Go.ChangeMaps (setBlock)
def Ob (b:Nat) (o:Obj):Rs where
 holds w M _:=w.heap[b]?=some o∧M b
 facts w:=w.heap[b]?=some o∧b<w.heap.size
 mono:=fun ⟨h1,h2⟩ hM _=>⟨h1,hM b h2⟩
 keep:=fun ⟨h1,h2⟩ hk=>⟨by rw [hk b (.inl h2) (Array.getElem?_eq_some_iff.1 h1).1];exact h1,h2⟩
 tells:=fun ⟨h1,h2⟩=>⟨h1,(Array.getElem?_eq_some_iff.1 h1).1⟩
structure En where
 key:ByteArray
 val:Value
 born:Nat
def En.e (x:En):MapEntry:=⟨.string x.key,x.val,x.born⟩
def mapO (E:List En) (clock:Nat):Obj:=.map (E.map En.e).toArray clock
def MapR (b:Nat) (E:List En) (clock:Nat):Rs:=Ob b (mapO E clock)
def ItR (r b since:Nat) (seen:List Nat) (c:Nat):Rs:=Ob r (.mapIter (some b) since seen.toArray c)
def zAg (k:ByteArray):List En→Option (Nat×Value)
 | []=>none
 | x::l=>if x.key=k then some (0,x.val) else (zAg k l).map fun p=>(p.1+1,p.2)
def getE (k:ByteArray) (E:List En):Option Value:=(zAg k E).map (·.2)
def setE (k:ByteArray) (v:Value):List En→List En
 | []=>[]
 | x::l=>if x.key=k then ⟨k,v,x.born⟩::l else x::setE k v l
def delE (k:ByteArray):List En→List En
 | []=>[]
 | x::l=>if x.key=k then l else x::delE k l
theorem zI0 (k:ByteArray):∀(E:List En) (i:Nat),Instr.findNow .string (.string k) (E.map En.e) i=some ((zAg k E).map fun p=>(i+p.1,p.2))
 | [],i=>rfl
 | x::l,i=>by
  rw [List.map_cons];obtain ⟨r,hr,hiff⟩:=sameNow_of_keys (d:=.string) (a:=.string k) (b:=.string x.key) trivial trivial;rw [zAg];by_cases h:x.key=k
  ·rw [if_pos h];have:r=true:=hiff.2 (by rw [h]);subst this;simp only [Instr.findNow,En.e,hr];rfl
  ·rw [if_neg h];have:r=false:=by
    cases r with
    | false=>rfl
    | true=>exact absurd (by have:=hiff.1 rfl;injection this with e;exact e.symm) h
   subst this;have ih:=zI0 k l (i+1);simp only [Instr.findNow];rw [show (En.e x).key=.string x.key from rfl,hr];simp only;rw [ih];cases zAg k l with
   | none=>rfl
   | some p=>simp;omega
theorem zIJ {k:ByteArray}:∀{E:List En} {j:Nat} {v:Value},zAg k E=some (j,v)→∃h:j<E.length,E[j].key=k∧E[j].val=v
 | [],_,_,h=>by cases h
 | x::l,j,v,h=>by
  rw [zAg] at h;split at h
  ·rename_i hk;injection h with h
   injection h with h1 h2
   subst h1;subst h2;exact ⟨by simp,hk,rfl⟩
  ·cases hl:zAg k l with
   | none=>rw [hl] at h;cases h
   | some p=>
    rw [hl] at h;injection h with h
    injection h with h1 h2
    obtain ⟨h3,h4,h5⟩:=zIJ (j:=p.1) (v:=p.2) (E:=l) (k:=k) hl;subst h1;subst h2;exact ⟨by simp;omega,h4,h5⟩
theorem zIs {k:ByteArray} {v:Value}:∀{E:List En} {j:Nat} {u:Value},zAg k E=some (j,u)→(E.map En.e).toArray.modify j (fun e=>{ e with key:=.string k,val:=v })=((setE k v E).map En.e).toArray
 | [],_,_,h=>by cases h
 | x::l,j,u,h=>by
  rw [zAg] at h;rw [setE];split at h
  ·rename_i hk;injection h with h
   injection h with h1 h2
   subst h1;rw [if_pos hk];apply Array.ext';simp [En.e,Array.toList_modify]
  ·rename_i hk;rw [if_neg hk];cases hl:zAg k l with
   | none=>rw [hl] at h;cases h
   | some p=>
    rw [hl] at h;injection h with h
    injection h with h1 h2
    have ih:=zIs (v:=v) (j:=p.1) (u:=p.2) (E:=l) (k:=k) hl;subst h1;have ih2:=congrArg Array.toList ih;apply Array.ext';simp [Array.toList_modify] at ih2 ⊢;exact ih2
theorem zKm {k:ByteArray}:∀{E:List En} {j:Nat} {u:Value},zAg k E=some (j,u)→(E.map En.e).toArray.eraseIdxIfInBounds j=((delE k E).map En.e).toArray
 | [],_,_,h=>by cases h
 | x::l,j,u,h=>by
  have hb:=(zIJ h).1;rw [zAg] at h;rw [delE];apply Array.ext';rw [Array.toList_eraseIdxIfInBounds];split at h
  ·rename_i hk;injection h with h
   injection h with h1 h2
   subst h1;rw [if_pos hk];simp
  ·rename_i hk;rw [if_neg hk];cases hl:zAg k l with
   | none=>rw [hl] at h;cases h
   | some p=>
    rw [hl] at h;injection h with h
    injection h with h1 h2
    have ih:=zKm (j:=p.1) (u:=p.2) (E:=l) (k:=k) hl;subst h1;have ih2:=congrArg Array.toList ih;rw [Array.toList_eraseIdxIfInBounds] at ih2;simp at ih2 ⊢;exact ih2
theorem zKC {k:ByteArray}:∀{E:List En},zAg k E=none→delE k E=E
 | [],_=>rfl
 | x::l,h=>by
  rw [zAg] at h;rw [delE];split at h
  ·cases h
  ·rename_i hk;rw [if_neg hk];cases hl:zAg k l with
   | none=>rw [zKC hl]
   | some p=>rw [hl] at h;cases h
section
variable {P:Program} {w:World} {b:Nat} {E:List En} {clock:Nat} {t kt e:TypeId} {k:ByteArray}
theorem zHi (k:ByteArray):IsKey .string (.string k):=trivial
theorem zFF (hk:P.underlying kt=some .string):(Instr.findKey kt (.string k) (E.map En.e)).run P w=.ok (zAg k E) w:=by
 have h:=zI0 k E 0;rw [show ((zAg k E).map fun p=>(0+p.1,p.2))=zAg k E from by cases zAg k E<;>simp] at h;exact run_findKey hk h
theorem zK4 (ok:Bool) (ht:P.underlying t=some (.map kt e)) (hk:P.underlying kt=some .string) {z:Value} (hz:(zeroValue e).run P w=.ok z w) (hb:w.heap[b]?=some (mapO E clock)) :
 (Instr.lookup t (.map (some b)) (.string k) ok).run P w=.ok (if ok then .tuple #[(getE k E).getD z,.bool (getE k E).isSome] else (getE k E).getD z) w:=by
 have hb':w.heap[b]?=some (.map (E.map En.e).toArray clock):=hb;simp only [Instr.lookup,Sem.run_bind,run_underlying ht,Result.andThen,Go.MapKept.run_getObj_map hb',Sem.run_pure,run_checkKey hk (zHi k),List.toList_toArray,zFF hk,getE];cases zAg k E with
 | none=>simp [hz,Result.andThen]
 | some p=>simp [Result.andThen]
theorem zF7 (ht:P.underlying t=some (.map kt e)) (hk:P.underlying kt=some .string) (hb:w.heap[b]?=some (mapO E clock)) (v:Value) :
 (Instr.mapUpdate t (.map (some b)) (.string k) v).run P w=.ok () (setBlock w b (match zAg k E with | some _=>mapO (setE k v E) clock | none=>mapO (E++[⟨k,v,clock⟩]) (clock+1))):=by
 have hb':w.heap[b]?=some (.map (E.map En.e).toArray clock):=hb;simp only [Instr.mapUpdate,Sem.run_bind,run_underlying ht,Result.andThen,Go.MapKept.run_getObj_map hb',Sem.run_pure,run_checkKey hk (zHi k),List.toList_toArray,zFF hk];cases hl:zAg k E with
 | none=>
  simp only [Go.MapKept.run_setObj_map _ hb',setBlock];simp [mapO,En.e]
 | some p=>
  obtain ⟨h1,h2,_⟩:=zIJ (j:=p.1) (v:=p.2) hl;have hs:Instr.sameBits 10000 (.string k) (.string k)=true:=by simp [Instr.sameBits,bytes_beq]
  have hkey:((((E.map En.e).toArray[p.1]?).map (·.key)).getD (.string k))=.string k:=by
   simp [h1,En.e,h2]
  simp only [hkey,Instr.keyThatStays,hs,if_true,Sem.run_bind,Sem.run_pure,Result.andThen,Go.MapKept.run_setObj_map _ hb',setBlock];have hm:=zIs (v:=v) (j:=p.1) (u:=p.2) hl;rw [hm];rfl
theorem zK9 (ht:P.underlying t=some (.map kt e)) (hk:P.underlying kt=some .string) (hb:w.heap[b]?=some (mapO E clock)) (ty:TypeId) :
 (Builtin.delete_ #[t,kt] ty #[.map (some b),.string k]).run P w=.ok (.tuple #[]) (setBlock w b (mapO (delE k E) clock)):=by
 have hb':w.heap[b]?=some (.map (E.map En.e).toArray clock):=hb;simp [Builtin.delete_,run_underlying ht,Go.MapKept.run_getObj_map hb',run_checkKey hk (zHi k),zFF hk,-bind_pure_comp];cases hl:zAg k E with
 | none=>
  simp [Go.MapKept.run_setObj_map _ hb',setBlock,zKC hl,-bind_pure_comp,Result.andThen];rfl
 | some p=>
  have hd:(E.map En.e).eraseIdx p.1=(delE k E).map En.e:=by
   have:=congrArg Array.toList (zKm (j:=p.1) (u:=p.2) hl);rw [Array.toList_eraseIdxIfInBounds] at this;exact this
  simp only [Sem.run_bind,Go.MapKept.run_setObj_map _ hb',setBlock,Result.andThen,Sem.run_pure,hd];rfl
end
theorem zLd {M:Nat→Prop} {w:World} {b:Nat} {o o':Obj} (hb:w.heap[b]?=some o) (hM:M b):Chg M w (setBlock w b o'):=
 ⟨rfl,rfl,rfl,by simp [setBlock],fun k _ hk=>by
  have:b≠k:=fun e=>hk (e ▸ hM)
  simp [setBlock,Array.getElem?_setIfInBounds_ne this]⟩
section
variable {S:Nat→Prop} {W w:World} {l l0 l1:List Rs}
theorem Own.putOb {b:Nat} {o:Obj} (o':Obj) (h:Own S W w (Ob b o::l)):Own S W (setBlock w b o') (Ob b o'::l):=by
 obtain ⟨M,Z,⟨h1,h2⟩,h3,_,k⟩:=h.turn1;refine k _ (Ob b o') M (zLd h1 h2) (fun b h=>.inl h) (fun b hb=>by simpa [setBlock] using (h3 b hb).1) ⟨?_,h2⟩;have hlt:=(Array.getElem?_eq_some_iff.1 h1).1;simp [setBlock,hlt]
theorem Own.newOb (h:Own S W w l) (o:Obj):Own S W (w.alloc o) (Ob w.heap.size o::l):=
 h.new (M':=fun b=>b=w.heap.size) ((Ext.refl w).alloc _) (fun b hb=>by rw [hb];simp) ⟨heap_alloc_new w _,rfl⟩
theorem Own.obAt {b:Nat} {o:Obj} (h:Own S W w l) (hp:Pick l (Ob b o) l0):w.heap[b]?=some o:=(show (Ob b o).facts w from h.factOf hp).1
end
section
variable {P:Program} {S:Nat→Prop} {W w:World} {l l0 l1:List Rs} {ops:Array Oper} {rest:List Oper} {a:Act} {Q:Exit→Act→World→Prop} {o:Oper} {b clock:Nat} {E:List En} {t kt e:TypeId} {k:ByteArray}
theorem zB3 (hO:Own S W w l) (hp:Pick l (MapR b E clock) l0) (hg:o.guard=none) (m x v:Operand) (hop:o.op=Op.mapUpdate t m x v) (ht:P.underlying t=some (.map kt e)) (hk:P.underlying kt=some .string)
 (hm:a.eval m=.map (some b)) (hx:a.eval x=.string k) (u:Value) (hv:a.eval v=u) (hin:(getE k E).isSome=true) (h:∀w',Own S W w' (MapR b (setE k u E) clock::l0)→wpList P ops Q rest (a.put o.dst undef) w'):wpList P ops Q (o::rest) a w:=by
 refine wpList_plain hg fun K' hK'=>?_
 have hrun:=zF7 (k:=k) (w:=w) ht hk (hO.obAt hp) u;unfold getE at hin;cases hl:zAg k E with
 | none=>rw [hl] at hin;cases hin
 | some p=>
  rw [hl] at hrun;unfold Oper.wp;simp [execOp,hop,hm,hx,hv,hrun,Result.andThen];exact hK' _ _ (h _ ((hO.pick hp).putOb _))
theorem zDC (hO:Own S W w l) (hp:Pick l (MapR b E clock) l0) (hg:o.guard=none) (m x v:Operand) (hop:o.op=Op.mapUpdate t m x v) (ht:P.underlying t=some (.map kt e)) (hk:P.underlying kt=some .string)
 (hm:a.eval m=.map (some b)) (hx:a.eval x=.string k) (u:Value) (hv:a.eval v=u) (hin:getE k E=none) (h:∀w',Own S W w' (MapR b (E++[⟨k,u,clock⟩]) (clock+1)::l0)→wpList P ops Q rest (a.put o.dst undef) w'):wpList P ops Q (o::rest) a w:=by
 refine wpList_plain hg fun K' hK'=>?_
 have hrun:=zF7 (k:=k) (w:=w) ht hk (hO.obAt hp) u;unfold getE at hin;cases hl:zAg k E with
 | some p=>rw [hl] at hin;cases hin
 | none=>
  rw [hl] at hrun;unfold Oper.wp;simp [execOp,hop,hm,hx,hv,hrun,Result.andThen];exact hK' _ _ (h _ ((hO.pick hp).putOb _))
theorem zD8 (hO:Own S W w l) (hp:Pick l (MapR b E clock) l0) (hg:o.guard=none) (m x:Operand) (hop:o.op=Op.call { callee:=Callee.builtin Builtin.delete,args:=#[m,x],argTypes:=#[t,kt] }) (ht:P.underlying t=some (.map kt e)) (hk:P.underlying kt=some .string)
 (hm:a.eval m=.map (some b)) (hx:a.eval x=.string k) (h:∀w',Own S W w' (MapR b (delE k E) clock::l0)→wpList P ops Q rest (a.put o.dst (.tuple #[])) w'):wpList P ops Q (o::rest) a w:=by
 refine wpList_plain hg fun K' hK'=>?_
 have hrun:=zK9 (k:=k) (w:=w) ht hk (hO.obAt hp) o.type;unfold Oper.wp;simp [execOp,hop,resolve,invoke,builtin,hm,hx,hrun,Result.andThen];exact hK' _ _ (h _ ((hO.pick hp).putOb _))
theorem zNZ (hO:Own S W w l) (hp:Pick l (MapR b E clock) l0) (hg:o.guard=none) (m:Operand) (hop:o.op=Op.call { callee:=Callee.builtin Builtin.len,args:=#[m],argTypes:=#[t] }) (ht:P.underlying t=some (.map kt e))
 (hm:a.eval m=.map (some b)) (h:wpList P ops Q rest (a.put o.dst (.int .i64 E.length)) w):wpList P ops Q (o::rest) a w:=by
 refine wpList_plain hg fun K' hK'=>?_
 have hb':w.heap[b]?=some (.map (E.map En.e).toArray clock):=hO.obAt hp;have hrun:(Builtin.len_ #[t] o.type #[.map (some b)]).run P w=.ok (.int .i64 E.length) w:=by
  simp [Builtin.len_,run_underlying ht,Go.MapKept.run_getObj_map hb',goInt]
 unfold Oper.wp;simp [execOp,hop,resolve,invoke,builtin,hm,hrun,Result.andThen];exact hK' _ _ h
theorem zDK (hO:Own S W w l) (hp:Pick l (MapR b E clock) l0) (hg:o.guard=none) (m:Operand) (hop:o.op=Op.range t m) (ht:P.underlying t=some (.map kt e))
 (hm:a.eval m=.map (some b)) (h:∀r w',Own S W w' (ItR r b clock [] clock::l)→wpList P ops Q rest (a.put o.dst (.pointer (some ⟨r,0,none⟩))) w'):wpList P ops Q (o::rest) a w:=by
 refine wpList_plain hg fun K' hK'=>?_
 have hb':w.heap[b]?=some (.map (E.map En.e).toArray clock):=hO.obAt hp;have hrun:=run_range_map (P:=P) w t kt e b (E.map En.e).toArray clock ht hb';unfold Oper.wp;simp [execOp,hop,hm,hrun,Result.andThen];exact hK' _ _ (h _ _ (hO.newOb _))
theorem zBs {r since c0:Nat} {seen:List Nat} (hO:Own S W w l) (hp:Pick l (MapR b E clock) l0) (hp2:Pick l0 (ItR r b since seen c0) l1) (hg:o.guard=none) (it:Operand) (hop:o.op=Op.next it false)
 (hit:a.eval it=.pointer (some ⟨r,0,none⟩)) (hold:∀x∈E,x.born<since) (hsc:since≤c0)
 (hDone:(∀x∈E,x.born∈seen)→wpList P ops Q rest (a.put o.dst (.tuple #[.bool false])) w)
 (hMore:∀(x:En) (w':World),x∈E→x.born∉seen→Own S W w' (ItR r b since (seen++[x.born]) clock::MapR b E clock::l1)→wpList P ops Q rest (a.put o.dst (.tuple #[.bool true,.string x.key,x.val])) w'):wpList P ops Q (o::rest) a w:=by
 refine wpList_plain hg fun K' hK'=>?_
 have hb':w.heap[b]?=some (.map (E.map En.e).toArray clock):=hO.obAt hp;have h1:=(hO.pick hp).pick (.there _ hp2);have hr:w.heap[r]?=some (.mapIter (some b) since seen.toArray c0):=h1.obAt (.here _ _);have hnx:=run_next_at (P:=P) w o.type r b since c0 seen.toArray (E.map En.e).toArray clock hr hb' (fun x hx=>by
  obtain ⟨y,hy,rfl⟩:=List.mem_map.1 (by simpa using hx);exact hold y hy) hsc
 unfold Oper.wp;rcases hnx with ⟨h0,hrun⟩ | ⟨x,hx,w1,hw1,hrun⟩
 ·simp [execOp,hop,hit,hrun,Result.andThen];refine hK' _ _ (hDone fun x hx=>?_);have h2:leftOf (E.map En.e).toArray seen.toArray=#[]:=Array.eq_empty_of_size_eq_zero h0;unfold leftOf at h2;rw [Array.filter_eq_empty_iff] at h2;have h3:=h2 (En.e x) (by simpa using ⟨x,hx,rfl⟩);simpa [En.e] using h3
 ·unfold leftOf at hx;simp only [Array.toList_filter,List.mem_filter,List.toList_toArray] at hx;obtain ⟨hx1,hx2⟩:=hx;obtain ⟨y,hy,rfl⟩:=List.mem_map.1 hx1;simp [execOp,hop,hit,hrun,Result.andThen];have hnot:y.born∉seen:=by simpa [En.e] using hx2
  refine hK' _ _ (hMore y _ hy hnot ?_);have h3:Own S W w1 (ItR r b since seen c0::MapR b E clock::l1):=by
   rcases hw1 with rfl | rfl
   ·exact h1
   ·exact h1.drew
  have h4:=h3.putOb (.mapIter (some b) since (seen.toArray.push y.born) clock);rw [show seen.toArray.push y.born=(seen++[y.born]).toArray from by simp] at h4;have e9:seen.toArray.push (En.e y).born=(seen++[y.born]).toArray:=by simp [En.e]
  (try rw [e9]);exact h4
theorem zDM {r since:Nat} {seen:List Nat} {x:En} (hO:Own S W w l) (hp:Pick l (MapR b E clock) l0) (hp2:Pick l0 (ItR r b since (seen++[x.born]) clock) l1) (hg:o.guard=none) (it:Operand) (hop:o.op=Op.entry it)
 (hit:a.eval it=.pointer (some ⟨r,0,none⟩)) (hx:x∈E) (hn:(E.map En.born).Nodup)
 (h:wpList P ops Q rest (a.put o.dst (.tuple #[.string x.key,x.val])) w):wpList P ops Q (o::rest) a w:=by
 refine wpList_plain hg fun K' hK'=>?_
 have hb':w.heap[b]?=some (.map (E.map En.e).toArray clock):=hO.obAt hp;have h1:=(hO.pick hp).pick (.there _ hp2);have hr:w.heap[r]?=some (.mapIter (some b) since (seen++[x.born]).toArray clock):=h1.obAt (.here _ _);have hrun:=run_entry_at (P:=P) w r b since seen.toArray (E.map En.e).toArray clock x.e (by rw [hr];simp [En.e]) hb' (by simpa using ⟨x,hx,rfl⟩) (by
  have:(E.map En.e).toArray.toList.map (·.born)=E.map En.born:=by simp [En.e,Function.comp_def]
  rw [this];exact hn)
 unfold Oper.wp;simp [execOp,hop,hit,hrun,Result.andThen];exact hK' _ _ h
end
