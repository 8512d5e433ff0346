/- Texts Ver7, St1, St2, Elder of this claim, laid together. -/
import Derived.Test.YtagcmjmcjpjihaaGreatDoorHC31
import Derived.Test.YtagcmjmcjpjihaaGreatDoorHC24
import Derived.Test.YtagcmjmcjpjihaaGreatDoorHC22
import Derived.Shelf.SlSortCmp.NoneTotal
set_option linter.unusedVariables false
set_option linter.unusedSimpArgs false
set_option maxHeartbeats 8000000
set_option maxRecDepth 100000
namespace Go.Proofs.YtagcmjmcjpjihaaGreatDoor
open Go.RowKit Go.Sort
instance:Inhabited Rw:=⟨⟨⟨#[]⟩,⟨#[]⟩⟩⟩
def zC3 (x y:Rw):Int:=cmpZ x.key y.key
theorem zIv (x y:Rw):ltOf zC3 x y=slt x.key y.key:=by unfold ltOf zC3;exact zJc _ _
theorem zQS:SWO (ltOf zC3) where
 irrefl x:=by rw [zIv];exact zBw _
 trans x y z h1 h2:=by rw [zIv] at *;exact zAv h1 h2
 ntrans x y z h1 h2:=by rw [zIv] at *;exact zDI h1 h2
theorem zTA (x y:Rw) (W:World):Calls Tryz.prog 205 #[.agg (rwC x).toArray,.agg (rwC y).toArray] W fun e w'=>e=.returned (.int .i64 (zC3 x y))∧∃q os',w'=grow (W.drewN q) os':=by
 have hcon:=fun W'=>Tryz.strings_Compare x.key y.key W'
 change ∀W',Calls Tryz.prog 165 _ _ _ at hcon;have hc:Lib.compareBytes x.key.data.toList y.key.data.toList=zC3 x y:=rfl;rw [hc] at hcon;clear hc;unfold rwC;generalize zC3 x y=r at hcon ⊢;go_enter Tryz.func205,Tryz.ntmps205;go_wp2_with (go_at_call 165;refine (hcon _).mono ?_;rintro e w' ⟨rfl,rfl⟩);go_ret;exact ⟨rfl,0,_,by rw [alloc_eq_grow,alloc_eq_grow,grow_grow];rfl⟩
theorem zJ7 {α:Type} [Inhabited α] {d d':Array α} (h:PermIn 0 d.size d d'):d'.toList.Perm d.toList:=by
 obtain ⟨h1,_,h3⟩:=h;rw [Array.extract_size] at h3;rw [←h1,Array.extract_size] at h3;exact h3
theorem zHW {α:Type} [Inhabited α] {lt:α→α→Bool} {d:Array α} (h:SortedIn lt 0 d.size d):d.toList.Pairwise fun a b=>lt b a=false:=by
 rw [List.pairwise_iff_getElem];intro i j hi hj hij;have h1:=h i j (Nat.zero_le _) hij (by simpa using hj);rw [getElem!_pos d j (by simpa using hj),getElem!_pos d i (by simpa using hi)] at h1;simpa using h1
theorem zLE (a:Option Addr) (n cap:Nat) (l:List Rw) (hl:l.length=n) (hn:n≤1000000) :
 Does Tryz.prog 163 #[.slice a n cap,.func (.func 205) #[] #[]] [Row2 177 2 a n cap (l.flatMap rwC)]
  (fun l':List Rw=>(.tuple #[],[Row2 177 2 a n cap (l'.flatMap rwC),.pure (l'.Perm l∧l'.Pairwise fun x y=>slt y.key x.key=false)])):=by
 intro S W w L0 hO;simp only [List.cons_append,List.nil_append] at hO;rcases Nat.eq_zero_or_pos n with h0 | h0
 ·subst h0;have hl0:=List.length_eq_zero_iff.1 hl;subst hl0;have hc:=AnyF.slices_SortFunc_none Tryz.sortRow a cap (.func (.func 205) #[] #[]) w;refine Calls.mono (show Calls Tryz.prog 163 _ _ _ from hc) ?_;rintro e w' ⟨rfl,rfl⟩;refine ⟨[],rfl,?_⟩;have h8:=hO.toPure (p:=([]:List Rw).Perm []∧([]:List Rw).Pairwise fun x y=>slt y.key x.key=false) ⟨.refl _,.nil⟩;dsimp only;(try simp only [CA]);exact h8.cut sb_
 ·obtain ⟨g,rfl,hfz,hg⟩:=hO.rowAt (.here _ _) h0;have hv:ValsAt w (some ⟨g,0,none⟩) (l.toArray.toList.flatMap rwC):=by
   rw [List.toList_toArray];exact hO.facts.1.1
  have hH:=zHT (enc:=rwC) (k:=2) (d:=l.toArray) hv hfz (fun _=>rfl) (by omega);have eg:∀args w,(callFunc 205 args).run Tryz.prog w=.ok (.enter 205 args) w:=enters_of Tryz.func205 (by kernel_rfl) rfl;have hs:l.toArray.size=n:=by simp [hl]
  have hcon:=AnyQ.slices_SortFunc Tryz.sortRow 2 Tryz.isAgg177 Tryz.sizeOf177 rwC (fun _=>rfl) (fun x v hv=>by simp [rwC] at hv;rcases hv with rfl | rfl<;>rfl) zC3 zQS 205 #[] g 0 cap l.toArray w eg (fun _ _ _ _ x y=>zTA x y _) hH hg (by rw [hs];omega);rw [hs] at hcon;refine Calls.mono (show Calls Tryz.prog 163 _ _ _ from hcon) ?_;rintro e w' ⟨rfl,d',m,os,hp,hso,rfl⟩;rw [←hs] at hp hso;have hp2:=zJ7 hp;have hd:d'.size=n:=by have:=hp2.length_eq;simp at this;omega
  have hso2:=zHW (lt:=ltOf zC3) (d:=d') (by rw [show d'.size=l.toArray.size from by omega];exact hso);have h8:=hO.sorted (m:=m) (os:=os) (d':=d') (enc:=rwC) (.here _ _) (fun _=>rfl) (by omega) hd;have h9:=h8.toPure (p:=d'.toList.Perm l∧d'.toList.Pairwise fun x y=>slt y.key x.key=false) ⟨by simpa using hp2,hso2.imp fun {a b} h=>by rw [zIv] at h;exact h⟩;refine ⟨d'.toList,rfl,?_⟩;dsimp only;(try simp only [CA]);exact h9.cut sb_
def zBo (seen:List Nat) (L:List VE):List (ByteArray×List Vn):=(L.filter fun x=>decide (x.born∈seen)).map VE.kv
theorem zPz (L:List VE):zBo [] L=[]:=by
 unfold zBo;rw [List.filter_eq_nil_iff.2 fun x _=>by simp];rfl
theorem zPi {seen:List Nat} {L:List VE} (h:∀e∈L,e.born∈seen):zBo seen L=L.map VE.kv:=by
 unfold zBo;rw [List.filter_eq_self.2 fun x hx=>by simpa using h x hx]
theorem zKW {seen:List Nat} {b:Nat}:∀{L:List VE},(∀x∈L,x.born≠b)→L.filter (fun x=>decide (x.born∈seen++[b]))=L.filter fun x=>decide (x.born∈seen)
 | [],_=>rfl
 | x::l,h=>by
  have h1:=h x (List.mem_cons_self ..);rw [List.filter_cons,List.filter_cons,zKW fun y hy=>h y (List.mem_cons_of_mem _ hy)];simp [h1]
theorem zI9 {seen:List Nat} {e:VE}:∀{L:List VE},(L.map VE.born).Nodup→e∈L→e.born∉seen→(L.filter fun x=>decide (x.born∈seen++[e.born])).Perm (e::L.filter fun x=>decide (x.born∈seen))
 | x::l,hn,hm,h=>by
  rw [List.map_cons,List.nodup_cons] at hn;rcases List.mem_cons.1 hm with rfl | hm
  ·rw [List.filter_cons,if_pos (by simp),zKW (fun y hy he=>hn.1 (List.mem_map.2 ⟨y,hy,he⟩)),List.filter_cons,if_neg (by simpa using h)]
  ·have hne:x.born≠e.born:=fun he=>hn.1 (List.mem_map.2 ⟨e,hm,he.symm⟩)
   have ih:=zI9 hn.2 hm h;rw [List.filter_cons,List.filter_cons];by_cases hx:x.born∈seen
   ·rw [if_pos (by simp [hx]),if_pos (by simpa using hx)];exact (ih.cons x).trans (.swap ..)
   ·rw [if_neg (by simp [hx,hne]),if_neg (by simpa using hx)];exact ih
def zFX (f:ByteArray→Bool) (n:Int) (e:VE):List Rw:=if (atV e.vs n).2&&f e.key then [⟨e.key,(atV e.vs n).1⟩] else []
theorem zQG {seen:List Nat} {e:VE} {L:List VE} {f:ByteArray→Bool} {n:Int} {O:List Rw} (hn:(L.map VE.born).Nodup) (he:e∈L) (hs:e.born∉seen) (hp:O.Perm (zBc (zBo seen L) f n)):(O++zFX f n e).Perm (zBc (zBo (seen++[e.born]) L) f n):=by
 have h1:(zBc (zBo (seen++[e.born]) L) f n).Perm (zBc (VE.kv e::zBo seen L) f n):=by
  unfold zBc zBo;exact ((zI9 hn he hs).map VE.kv).filterMap _
 refine List.Perm.trans ?_ h1.symm;have h2:zBc (VE.kv e::zBo seen L) f n=zFX f n e++zBc (zBo seen L) f n:=by
  unfold zBc zFX;rw [List.filterMap_cons];by_cases hc:((atV (VE.kv e).2 n).2&&f (VE.kv e).1)=true
  ·rw [if_pos hc,if_pos (show ((atV e.vs n).2&&f e.key)=true from hc)];rfl
  ·rw [if_neg hc,if_neg (show ¬((atV e.vs n).2&&f e.key)=true from hc)];rfl
 rw [h2];exact (hp.append_right _).trans List.perm_append_comm
theorem Tryz.infoRw:(Tryz.prog.info? 177).map (fun i=>(i.zero,i.size,i.bytes))=some (some (.agg #[.string ⟨#[]⟩,.string ⟨#[]⟩]),2,32):=by kernel_rfl
theorem zKP (O:List Rw) (k v:ByteArray):(O++[(⟨k,v⟩:Rw)]).flatMap rwC=O.flatMap rwC++[.string k,.string v]:=by rw [List.flatMap_append];rfl
theorem zJk {w:World} {L:List VE} {e:VE} (h:(Rows L).facts w) (he:e∈L):ValsAt w e.addr (e.vs.flatMap verC):=(zGq (show zDo w (L.map VE.row) from h) (List.mem_map.2 ⟨e,he,rfl⟩):e.row.facts w).1
theorem zOp (p nn:Nat) (V:List (ByteArray×List Vn)) (lo hi:ByteArray) (n:Int) (hlen:V.length≤100000) (hV:∀e∈V,e.2.length≤100000) :
 Does Tryz.prog 131 #[.pointer (some ⟨p,0,none⟩),.agg #[.string lo,.string hi],.int .i64 n] [VerR p nn V]
  (fun x:Option Addr×Nat=>(.slice x.1 (zBm V (hasB lo hi) n).length x.2,[VerR p nn V,Row2 177 2 x.1 (zBm V (hasB lo hi) n).length x.2 ((zBm V (hasB lo hi) n).flatMap rwC)])):=by
 obtain ⟨iR,hiR,hzR,hsR,hbR⟩:=info_parts Tryz.infoRw;intro S W w L0 hO;simp only [CA] at hO;obtain ⟨⟨b,clock,L⟩,hO⟩:=hO.ofEx;replace hO:=hO.unpack;dsimp only at hO;simp only [CA] at hO;(replace hf:=fa_ hO);have hVk:L.map VE.kv=V∧VesOk L clock:=hO.factOf (r:=.pure (L.map VE.kv=V∧VesOk L clock)) pk_;obtain ⟨hVe,hok⟩:=hVk;subst hVe;have hold:∀x∈L.map VE.en,x.born<clock:=fun x hx=>by obtain ⟨e,he,rfl⟩:=List.mem_map.1 hx;exact hok.lt e he
 have hborn:((L.map VE.en).map En.born).Nodup:=by rw [List.map_map];exact hok.borns
 have hnk:((L.map VE.kv).map (·.1)).Nodup:=by rw [List.map_map];exact hok.keys
 rw [List.length_map] at hlen;go_enter Tryz.func131,Tryz.ntmps131;go_wp2_with (first|(at_range;(refine zDK hO pk_ rfl _ rfl Tryz.underlying234 rfl ?_;clear hO;intro r9 w9 hO;(replace hf:=fa_ hO)))|(refine sq_ ?_;clear hO hf;intro w9 hO hf));obtain ⟨g,hg9⟩:=(hO.pick (r:=Var _ [.string lo,.string hi] 98) pk_).named;rw [←hg9];rw [←hg9] at hO;clear hg9;have hO9:=hO.nil 177 2;clear hO hf;go_loopw [7] (fun v wr=>∃(seen:List Nat) (oa:Option Addr) (oc:Nat) (O:List Rw),v=.slice oa O.length oc∧Hid (O.Perm (zBc (zBo seen L) (hasB lo hi) n))∧Own S W wr ([ItR r9 b clock seen clock,Row2 177 2 oa O.length oc (O.flatMap rwC),Var g [.string lo,.string hi] 98,Var p [.map (some b),.int .i64 nn] 236,MapR b (L.map VE.en) clock,Rows L]++L0)) (fun v wr=>zCe (zFO r9 wr) L)
 case atStart=>exact ⟨[],none,0,[],rfl,Lib.hid (by rw [zPz];exact .refl _),(by simp only [List.length_nil,List.flatMap_nil,List.cons_append,List.nil_append];exact hO9.cut sb_)⟩
 case round=>
  clear hO9;obtain ⟨seen,oa,oc,O,rfl,HP,hO⟩:=hrel;rename World=>w1
  simp only [List.cons_append,List.nil_append] at hO;have hseen:=zAr hO (.here _ _);rw [hseen];(replace hf:=fa_ hO);have hOn:O.length≤1000000:=by have h:=HP.out.length_eq;have h3:(zBo seen L).length≤L.length:=(by unfold zBo;rw [List.length_map];exact List.length_filter_le _ _);have h2:=List.length_filterMap_le (fun e:ByteArray×List Vn=>if (atV e.2 n).2&&hasB lo hi e.1 then some (⟨e.1,(atV e.2 n).1⟩:Rw) else none) (zBo seen L);unfold zBc at h;omega
  by_cases hall:∀x∈L.map VE.en,x.born∈seen
  ·have e1:=zPi fun e he=>hall _ (List.mem_map.2 ⟨e,he,rfl⟩)
   rw [e1] at HP;have HS:=zLE oa O.length oc O rfl hOn;go_wp2_with (first|(at_next;(refine zBs hO pk_ pk_ rfl _ rfl rfl hold (Nat.le_refl _) (fun _=>?_) (fun x8 _ hx8 hn8 _=>absurd (hall x8 hx8) hn8)))|(go_at_call 163;(with_reducible refine Does.use hO (HS) tk_ (du_ ?_);clear hO;(try clear hf);intro x9 w9 hO hf))|(refine sq_ ?_;clear hO;(try clear hf);intro w9 hO hf));rename List Rw=>O'
   obtain ⟨hp1,hp2⟩:=hO.factOf (r:=.pure (O'.Perm O∧O'.Pairwise fun x y=>slt y.key x.key=false)) pk_;have e2:=zS1 hnk (hp1.trans HP.out) hp2;have e3:O.length=(zBm (L.map VE.kv) (hasB lo hi) n).length:=by rw [←e2];exact hp1.length_eq.symm
   rw [e2,e3] at hO;rw [e3];have hO:=hO.toPure (p:=True∧VesOk L clock) ⟨trivial,hok⟩;go_ret;refine ⟨(oa,oc),rfl,?_⟩;(try simp only [CA]);refine Own.toEx (b,clock,L) (Own.pack ?_);dsimp only;(try simp only [CA]);exact hO.cut sb_
  ·go_upto_region 5 with (first|(at_next;(refine zBs hO pk_ pk_ rfl _ rfl rfl hold (Nat.le_refl _) (fun h8=>absurd h8 hall) ?_;clear hO;intro x9 w9 hx9 hn9 hO;obtain ⟨e9,he9,rfl⟩:=List.mem_map.1 hx9;clear hx9;(replace hf:=fa_ hO)))|(with_reducible show wpList _ _ _ (Oper.mk _ (.entry _) _ _ _ _::_) _ _;(refine zDM (x:=VE.en e9) hO pk_ pk_ rfl _ rfl rfl (List.mem_map.2 ⟨e9,he9,rfl⟩) hborn ?_;dsimp only [VE.en]))|(refine sq_ ?_;clear hO;(try clear hf);intro w9 hO hf))
   have hv9:e9.vs.length≤1000000:=Nat.le_trans (hV (VE.kv e9) (List.mem_map.2 ⟨e9,he9,rfl⟩)) (by omega);have HAT:=fun w h=>zPn e9.addr e9.cap e9.vs n hv9 w h
   have HH:=fun w=>zIB lo hi e9.key w
   have HST:=Lib.hid (zQG (f:=hasB lo hi) (n:=n) hok.borns he9 hn9 HP.out);have HRO:=Lib.hid (show zFX (hasB lo hi) n e9=if (atV e9.vs n).2&&hasB lo hi e9.key then [⟨e9.key,(atV e9.vs n).1⟩] else [] from rfl);generalize atV e9.vs n=y at *;obtain ⟨yv,yb⟩:=y;generalize hasB lo hi e9.key=hb at *;dsimp only at HAT HRO;cases yb with
   | false=>
    have HR2:=Lib.hid (show (O++zFX (hasB lo hi) n e9).Perm (zBc (zBo (seen++[e9.born]) L) (hasB lo hi) n)→O.Perm (zBc (zBo (seen++[e9.born]) L) (hasB lo hi) n) from by rw [HRO.out,show (if (false&&hb)=true then [(⟨e9.key,yv⟩:Rw)] else [])=[] from rfl,List.append_nil];exact id);go_wp2_with (first|(go_at_call 199;(with_reducible apply Calls.mono (HAT _ (zJk (hO.factOf (r:=Rows L) pk_) he9));refine cu_ ?_;clear hO;(try clear hf);intro w8 hO hf))|(go_at_call 132;(with_reducible apply Calls.mono (HH _);refine cu_ ?_;clear hO;(try clear hf);intro w8 hO hf))|(refine sq_ ?_;clear hO;(try clear hf);intro w9 hO hf));have e3:=zAr hO pk_;rw [e3];refine ⟨⟨seen++[(VE.en e9).born],oa,oc,O,rfl,Lib.hid (HR2.out HST.out),?_⟩,zEt he9 hn9⟩;(try simp only [CA]);exact hO.cut sb_
   | true=>
    cases hb with
    | false=>
     have HR2:=Lib.hid (show (O++zFX (hasB lo hi) n e9).Perm (zBc (zBo (seen++[e9.born]) L) (hasB lo hi) n)→O.Perm (zBc (zBo (seen++[e9.born]) L) (hasB lo hi) n) from by rw [HRO.out,show (if (true&&false)=true then [(⟨e9.key,yv⟩:Rw)] else [])=[] from rfl,List.append_nil];exact id);go_wp2_with (first|(go_at_call 199;(with_reducible apply Calls.mono (HAT _ (zJk (hO.factOf (r:=Rows L) pk_) he9));refine cu_ ?_;clear hO;(try clear hf);intro w8 hO hf))|(go_at_call 132;(with_reducible apply Calls.mono (HH _);refine cu_ ?_;clear hO;(try clear hf);intro w8 hO hf))|(refine sq_ ?_;clear hO;(try clear hf);intro w9 hO hf));have e3:=zAr hO pk_;rw [e3];refine ⟨⟨seen++[(VE.en e9).born],oa,oc,O,rfl,Lib.hid (HR2.out HST.out),?_⟩,zEt he9 hn9⟩;(try simp only [CA]);exact hO.cut sb_
    | true=>
     have HR2:=Lib.hid (show (O++zFX (hasB lo hi) n e9).Perm (zBc (zBo (seen++[e9.born]) L) (hasB lo hi) n)→(O++[(⟨e9.key,yv⟩:Rw)]).Perm (zBc (zBo (seen++[e9.born]) L) (hasB lo hi) n) from by rw [HRO.out,show (if (true&&true)=true then [(⟨e9.key,yv⟩:Rw)] else [])=[(⟨e9.key,yv⟩:Rw)] from rfl];exact id);go_wp2_with (first|(go_at_call 199;(with_reducible apply Calls.mono (HAT _ (zJk (hO.factOf (r:=Rows L) pk_) he9));refine cu_ ?_;clear hO;(try clear hf);intro w8 hO hf))|(go_at_call 132;(with_reducible apply Calls.mono (HH _);refine cu_ ?_;clear hO;(try clear hf);intro w8 hO hf))|(at_builtin;(refine zAH (e:=177) (size:=2) (xs:=O.flatMap rwC) (news:=[.string e9.key,.string yv]) hO pk_ pk_ rfl (.tmp 34) (.tmp 38) 32 rfl iR _ 32 Tryz.underlying32 hiR hzR hsR hbR rfl (by omega) rfl _ _ rfl (by rfl) (by repeat (first | exact zAp | refine zAf rfl ?_)) (by unfold maxLen;omega) (by omega) ?_;clear hO;intro ka9 kc9 w9 hO;(replace hf:=fa_ hO)))|(refine sq_ ?_;clear hO;(try clear hf);intro w9 hO hf));have e3:=zAr hO pk_;rw [e3];have hl:(O++[(⟨e9.key,yv⟩:Rw)]).length=O.length+1:=by rw [List.length_append];rfl
     refine ⟨⟨seen++[(VE.en e9).born],ka9,kc9,O++[⟨e9.key,yv⟩],by rw [hl],Lib.hid (HR2.out HST.out),?_⟩,zEt he9 hn9⟩;rw [hl,zKP];(try simp only [CA]);exact hO.cut sb_
end Go.Proofs.YtagcmjmcjpjihaaGreatDoor
namespace Go.Proofs.YtagcmjmcjpjihaaGreatDoor
open Go.RowKit
structure SE where
 key:ByteArray
 val:ByteArray
 born:Nat
def SE.en (e:SE):En:=⟨e.key,.string e.val,e.born⟩
def SE.rw (e:SE):Rw:=⟨e.key,e.val⟩
structure SesOk (L:List SE) (clock:Nat) (R:List Rw):Prop where
 perm:(L.map SE.rw).Perm R
 ups:RUps R
 borns:(L.map SE.born).Nodup
 lt:∀x∈L,x.born<clock
def StM (b:Nat) (R:List Rw):Rs:=.ex fun x:Nat×List SE=>.many [MapR b (x.2.map SE.en) x.1,.pure (SesOk x.2 x.1 R)]
theorem SesOk.keys {L:List SE} {clock:Nat} {R:List Rw} (h:SesOk L clock R):(L.map SE.key).Nodup:=by
 have h1:=(h.perm.map Rw.key).nodup_iff.2 h.ups.keys;rw [List.map_map] at h1;exact h1
theorem SesOk.len {L:List SE} {clock:Nat} {R:List Rw} (h:SesOk L clock R):L.length=R.length:=by
 have:=h.perm.length_eq;rw [List.length_map] at this;exact this
theorem SesOk.old {L:List SE} {clock:Nat} {R:List Rw} (h:SesOk L clock R):∀x∈L.map SE.en,x.born<clock:=fun x hx=>by
 obtain ⟨e,he,rfl⟩:=List.mem_map.1 hx;exact h.lt e he
theorem SesOk.born {L:List SE} {clock:Nat} {R:List Rw} (h:SesOk L clock R):((L.map SE.en).map En.born).Nodup:=by rw [List.map_map];exact h.borns
theorem SesOk.none:SesOk [] 0 []:=⟨.refl _,.nil,.nil,fun _ h=>(List.not_mem_nil h).elim⟩
theorem RUps.nodup {R:List Rw} (h:RUps R):R.Nodup:=List.Pairwise.imp (fun {a b} h e=>zBr h (congrArg Rw.key e)) h
theorem zGl {A R:List Rw} (hA:(A.map Rw.key).Nodup) (hR:RUps R) (h:∀r,r∈A↔r∈R):A.Perm R:=by
 have hn:A.Nodup:=List.Pairwise.imp (fun {a b} h e=>h (congrArg Rw.key e)) (List.pairwise_map.1 hA);exact (List.perm_ext_iff_of_nodup hn hR.nodup).2 h
def delS (k:ByteArray):List SE→List SE
 | []=>[]
 | x::l=>if x.key=k then l else x::delS k l
theorem zQR (k:ByteArray):∀L:List SE,delE k (L.map SE.en)=(delS k L).map SE.en
 | []=>rfl
 | x::l=>by
  rw [List.map_cons,delE,delS];by_cases h:x.key=k
  ·rw [if_pos (show (SE.en x).key=k from h),if_pos h]
  ·rw [if_neg (show ¬(SE.en x).key=k from h),if_neg h,List.map_cons,zQR k l]
theorem zMF (k:ByteArray):∀L:List SE,(delS k L).Sublist L
 | []=>.slnil
 | x::l=>by
  rw [delS];split
  ·exact .cons _ (.refl _)
  ·exact .cons_cons _ (zMF k l)
theorem zHx {k:ByteArray} {x:SE}:∀{L:List SE},(L.map SE.key).Nodup→(x∈delS k L↔x∈L∧x.key≠k)
 | [],_=>by simp [delS]
 | y::l,hn=>by
  rw [List.map_cons,List.nodup_cons] at hn;rw [delS];by_cases h:y.key=k
  ·rw [if_pos h,List.mem_cons];constructor
   ·intro hx;exact ⟨.inr hx,fun e=>hn.1 (List.mem_map.2 ⟨x,hx,by rw [e,h]⟩)⟩
   ·rintro ⟨rfl | hx,h2⟩
    ·exact absurd h h2
    ·exact hx
  ·rw [if_neg h,List.mem_cons,List.mem_cons,zHx hn.2];constructor
   ·rintro (rfl | ⟨h1,h2⟩)
    ·exact ⟨.inl rfl,h⟩
    ·exact ⟨.inr h1,h2⟩
   ·rintro ⟨rfl | h1,h2⟩
    ·exact .inl rfl
    ·exact .inr ⟨h1,h2⟩
def setS (k v:ByteArray):List SE→List SE
 | []=>[]
 | x::l=>if x.key=k then ⟨k,v,x.born⟩::l else x::setS k v l
theorem zPk (k v:ByteArray):∀L:List SE,setE k (.string v) (L.map SE.en)=(setS k v L).map SE.en
 | []=>rfl
 | x::l=>by
  rw [List.map_cons,setE,setS];by_cases h:x.key=k
  ·rw [if_pos (show (SE.en x).key=k from h),if_pos h];rfl
  ·rw [if_neg (show ¬(SE.en x).key=k from h),if_neg h,List.map_cons,zPk k v l]
theorem zKo (k v:ByteArray):∀L:List SE,(setS k v L).map SE.key=L.map SE.key
 | []=>rfl
 | x::l=>by
  rw [setS];by_cases h:x.key=k
  ·rw [if_pos h,List.map_cons,List.map_cons,h]
  ·rw [if_neg h,List.map_cons,List.map_cons,zKo k v l]
theorem zIf (k v:ByteArray):∀L:List SE,(setS k v L).map SE.born=L.map SE.born
 | []=>rfl
 | x::l=>by
  rw [setS];by_cases h:x.key=k
  ·rw [if_pos h,List.map_cons,List.map_cons]
  ·rw [if_neg h,List.map_cons,List.map_cons,zIf k v l]
theorem zLR {k v:ByteArray} {r:Rw}:∀{L:List SE},(L.map SE.key).Nodup→(∃x∈L,x.key=k)→(r∈(setS k v L).map SE.rw↔(r∈L.map SE.rw∧r.key≠k)∨r=⟨k,v⟩)
 | [],_,h=>by obtain ⟨x,hx,_⟩:=h;cases hx
 | y::l,hn,hx=>by
  rw [List.map_cons,List.nodup_cons] at hn;rw [setS];by_cases h:y.key=k
  ·rw [if_pos h,List.map_cons,List.map_cons,List.mem_cons,List.mem_cons];have hk:∀r∈l.map SE.rw,r.key≠k:=fun r hr e=>by
    obtain ⟨x,hx,rfl⟩:=List.mem_map.1 hr;exact hn.1 (List.mem_map.2 ⟨x,hx,by rw [h];exact e⟩)
   constructor
   ·rintro (rfl | h1)
    ·exact .inr rfl
    ·exact .inl ⟨.inr h1,hk r h1⟩
   ·rintro (⟨rfl | h1,h2⟩ | rfl)
    ·exact absurd h h2
    ·exact .inr h1
    ·exact .inl rfl
  ·rw [if_neg h,List.map_cons,List.map_cons,List.mem_cons,List.mem_cons,zLR hn.2 (by
    obtain ⟨x,hx,e⟩:=hx;rcases List.mem_cons.1 hx with rfl | hx
    ·exact absurd e h
    ·exact ⟨x,hx,e⟩)]
   constructor
   ·rintro (rfl | ⟨h1,h2⟩ | h1)
    ·exact .inl ⟨.inl rfl,h⟩
    ·exact .inl ⟨.inr h1,h2⟩
    ·exact .inr h1
   ·rintro (⟨rfl | h1,h2⟩ | h1)
    ·exact .inl rfl
    ·exact .inr (.inl ⟨h1,h2⟩)
    ·exact .inr (.inr h1)
theorem zQk (k:ByteArray):∀L:List SE,(getE k (L.map SE.en)=none∧∀x∈L,x.key≠k)∨((getE k (L.map SE.en)).isSome=true∧∃x∈L,x.key=k)
 | []=>.inl ⟨rfl,fun _ h=>(List.not_mem_nil h).elim⟩
 | x::l=>by
  unfold getE;rw [List.map_cons,zAg];by_cases h:x.key=k
  ·rw [if_pos (show (SE.en x).key=k from h)];exact .inr ⟨rfl,x,List.mem_cons_self ..,h⟩
  ·rw [if_neg (show ¬(SE.en x).key=k from h)];rcases zQk k l with ⟨h1,h2⟩ | ⟨h1,y,hy,h2⟩
   ·left;unfold getE at h1;refine ⟨by cases hl:zAg k (l.map SE.en) with | none=>rfl | some p=>(rw [hl] at h1;cases h1),fun y hy=>?_⟩;rcases List.mem_cons.1 hy with rfl | hy
    ·exact h
    ·exact h2 y hy
   ·right;unfold getE at h1;refine ⟨by cases hl:zAg k (l.map SE.en) with | none=>(rw [hl] at h1;cases h1) | some p=>rfl,y,List.mem_cons_of_mem _ hy,h2⟩
theorem SesOk.del {L:List SE} {clock:Nat} {R:List Rw} (h:SesOk L clock R) (k v:ByteArray):SesOk (delS k L) clock (appR R ⟨k,v,true⟩):=by
 have hs:=zMF k L;have hu:RUps (appR R ⟨k,v,true⟩):=zBC h.ups;refine ⟨zGl ?_ hu fun r=>?_,hu,h.borns.sublist (hs.map _),fun x hx=>h.lt x (hs.subset hx)⟩
 ·rw [List.map_map];exact h.keys.sublist (hs.map _)
 ·unfold appR;rw [zAi,←h.perm.mem_iff];constructor
  ·intro hr;obtain ⟨x,hx,rfl⟩:=List.mem_map.1 hr;obtain ⟨h1,h2⟩:=(zHx h.keys).1 hx;exact .inl ⟨List.mem_map.2 ⟨x,h1,rfl⟩,h2⟩
  ·rintro (⟨h1,h2⟩ | ⟨h1,_⟩)
   ·obtain ⟨x,hx,rfl⟩:=List.mem_map.1 h1;exact List.mem_map.2 ⟨x,(zHx h.keys).2 ⟨hx,h2⟩,rfl⟩
   ·cases h1
theorem SesOk.set {L:List SE} {clock:Nat} {R:List Rw} (h:SesOk L clock R) {k:ByteArray} (v:ByteArray) (hk:∃x∈L,x.key=k):SesOk (setS k v L) clock (appR R ⟨k,v,false⟩):=by
 have hu:RUps (appR R ⟨k,v,false⟩):=zBC h.ups;have hb:=zIf k v L;refine ⟨zGl ?_ hu fun r=>?_,hu,by rw [hb];exact h.borns,fun x hx=>?_⟩
 ·rw [List.map_map];show ((setS k v L).map SE.key).Nodup;rw [zKo];exact h.keys
 ·unfold appR;rw [zAi,←h.perm.mem_iff,zLR h.keys hk];simp
 ·have h1:x.born∈(setS k v L).map SE.born:=List.mem_map.2 ⟨x,hx,rfl⟩;rw [hb] at h1;obtain ⟨y,hy,e⟩:=List.mem_map.1 h1;rw [←e];exact h.lt y hy
theorem SesOk.add {L:List SE} {clock:Nat} {R:List Rw} (h:SesOk L clock R) {k:ByteArray} (v:ByteArray) (hk:∀x∈L,x.key≠k):SesOk (L++[⟨k,v,clock⟩]) (clock+1) (appR R ⟨k,v,false⟩):=by
 have hu:RUps (appR R ⟨k,v,false⟩):=zBC h.ups;refine ⟨zGl ?_ hu fun r=>?_,hu,?_,fun x hx=>?_⟩
 ·rw [List.map_map,List.map_append,List.nodup_append];refine ⟨h.keys,by simp,fun a ha b hb he=>?_⟩;obtain ⟨x,hx,rfl⟩:=List.mem_map.1 ha;simp at hb;exact hk x hx (he.trans hb)
 ·unfold appR;rw [zAi,←h.perm.mem_iff,List.map_append,List.mem_append];have hn:∀r∈L.map SE.rw,r.key≠k:=fun r hr=>by
   obtain ⟨x,hx,rfl⟩:=List.mem_map.1 hr;exact hk x hx
  constructor
  ·rintro (h1 | h1)
   ·exact .inl ⟨h1,hn r h1⟩
   ·exact .inr ⟨rfl,by simpa [SE.rw] using h1⟩
  ·rintro (⟨h1,_⟩ | ⟨_,rfl⟩)
   ·exact .inl h1
   ·exact .inr (by simp [SE.rw])
 ·rw [List.map_append,List.nodup_append];refine ⟨h.borns,by simp,fun a ha b hb he=>?_⟩;obtain ⟨x,hx,rfl⟩:=List.mem_map.1 ha;simp at hb;have:=h.lt x hx;omega
 ·rcases List.mem_append.1 hx with hx | hx
  ·have:=h.lt x hx;omega
  ·simp at hx;rw [hx];simp
def zET (seen:List Nat):List SE→Nat
 | []=>0
 | x::l=>(if x.born∈seen then 0 else 1)+zET seen l
theorem zLn {seen:List Nat} {b:Nat}:∀L:List SE,zET (seen++[b]) L≤zET seen L
 | []=>Nat.le_refl _
 | x::l=>by
  have:=zLn (seen:=seen) (b:=b) l;unfold zET;by_cases h:x.born∈seen
  ·rw [if_pos h,if_pos (List.mem_append_left _ h)];omega
  ·rw [if_neg h];split<;>omega
theorem zHt {seen:List Nat} {e:SE}:∀{L:List SE},e∈L→e.born∉seen→zET (seen++[e.born]) L<zET seen L
 | x::l,hm,hs=>by
  unfold zET;rcases List.mem_cons.1 hm with rfl | hm
  ·have:=zLn (seen:=seen) (b:=e.born) l;rw [if_neg hs,if_pos (List.mem_append_right _ (List.mem_singleton_self _))];omega
  ·have:=zHt hm hs;by_cases h:x.born∈seen
   ·rw [if_pos h,if_pos (List.mem_append_left _ h)];omega
   ·rw [if_neg h];split<;>omega
def zCa (seen:List Nat) (L:List SE):List Rw:=(L.filter fun x=>decide (x.born∈seen)).map SE.rw
theorem zKN (L:List SE):zCa [] L=[]:=by
 unfold zCa;rw [List.filter_eq_nil_iff.2 fun x _=>by simp];rfl
theorem zJ9 {seen:List Nat} {L:List SE} (h:∀e∈L,e.born∈seen):zCa seen L=L.map SE.rw:=by
 unfold zCa;rw [List.filter_eq_self.2 fun x hx=>by simpa using h x hx]
theorem zKS {seen:List Nat} {b:Nat}:∀{L:List SE},(∀x∈L,x.born≠b)→L.filter (fun x=>decide (x.born∈seen++[b]))=L.filter fun x=>decide (x.born∈seen)
 | [],_=>rfl
 | x::l,h=>by
  have h1:=h x (List.mem_cons_self ..);rw [List.filter_cons,List.filter_cons,zKS fun y hy=>h y (List.mem_cons_of_mem _ hy)];simp [h1]
theorem zI5 {seen:List Nat} {e:SE}:∀{L:List SE},(L.map SE.born).Nodup→e∈L→e.born∉seen→(L.filter fun x=>decide (x.born∈seen++[e.born])).Perm (e::L.filter fun x=>decide (x.born∈seen))
 | x::l,hn,hm,h=>by
  rw [List.map_cons,List.nodup_cons] at hn;rcases List.mem_cons.1 hm with rfl | hm
  ·rw [List.filter_cons,if_pos (by simp),zKS (fun y hy he=>hn.1 (List.mem_map.2 ⟨y,hy,he⟩)),List.filter_cons,if_neg (by simpa using h)]
  ·have hne:x.born≠e.born:=fun he=>hn.1 (List.mem_map.2 ⟨e,hm,he.symm⟩)
   have ih:=zI5 hn.2 hm h;rw [List.filter_cons,List.filter_cons];by_cases hx:x.born∈seen
   ·rw [if_pos (by simp [hx]),if_pos (by simpa using hx)];exact (ih.cons x).trans (.swap ..)
   ·rw [if_neg (by simp [hx,hne]),if_neg (by simpa using hx)];exact ih
theorem zIV {seen:List Nat} {e:SE} {L:List SE} {O:List Rw} (hn:(L.map SE.born).Nodup) (he:e∈L) (hs:e.born∉seen) (hp:O.Perm (zCa seen L)):(O++[(⟨e.key,e.val⟩:Rw)]).Perm (zCa (seen++[e.born]) L):=by
 have h1:(zCa (seen++[e.born]) L).Perm (SE.rw e::zCa seen L):=(zI5 hn he hs).map SE.rw;refine List.Perm.trans ?_ h1.symm;exact List.perm_append_comm.trans (hp.cons _)
theorem zQW (seen:List Nat) (L:List SE):(zCa seen L).Sublist (L.map SE.rw):=(List.filter_sublist).map _
theorem zQN {O' R:List Rw} (hR:RUps R) (hp:O'.Perm R) (hs:O'.Pairwise fun x y=>slt y.key x.key=false):O'=R:=by
 have hk:(O'.map Rw.key).Nodup:=(hp.map Rw.key).nodup_iff.2 hR.keys;have hu:RUps O':=by
  have h1:O'.Pairwise fun x y=>x.key≠y.key:=List.pairwise_map.1 hk
  exact List.Pairwise.imp (fun {a b} h=>zDp h.1 fun e=>h.2 e.symm) (hs.and h1)
 exact RUps.ext hu hR fun r=>hp.mem_iff
end Go.Proofs.YtagcmjmcjpjihaaGreatDoor
namespace Go.Proofs.YtagcmjmcjpjihaaGreatDoor
open Go.RowKit Go.Sort
structure Cpy (seen:List Nat) (L L2:List SE) (c2:Nat):Prop where
 perm:(L2.map SE.rw).Perm (zCa seen L)
 borns:(L2.map SE.born).Nodup
 lt:∀x∈L2,x.born<c2
theorem Cpy.none (L:List SE):Cpy [] L [] 0:=⟨by rw [zKN];exact .refl _,.nil,fun _ h=>(List.not_mem_nil h).elim⟩
theorem zKi {α β:Type} {f:α→β}:∀{l:List α},(l.map f).Nodup→∀{x y:α},x∈l→y∈l→f x=f y→x=y
 | z::l,h,x,y,hx,hy,he=>by
  rw [List.map_cons,List.nodup_cons] at h;rcases List.mem_cons.1 hx with rfl | hx'<;>rcases List.mem_cons.1 hy with rfl | hy'
  ·rfl
  ·exact absurd (List.mem_map.2 ⟨y,hy',he.symm⟩) h.1
  ·exact absurd (List.mem_map.2 ⟨x,hx',he⟩) h.1
  ·exact zKi h.2 hx' hy' he
theorem Cpy.step {seen:List Nat} {L L2:List SE} {clock c2:Nat} {R:List Rw} (h:Cpy seen L L2 c2) (hL:SesOk L clock R) {e:SE} (he:e∈L) (hs:e.born∉seen) :
 (∀x∈L2,x.key≠e.key)∧Cpy (seen++[e.born]) L (L2++[⟨e.key,e.val,c2⟩]) (c2+1):=by
 have hk:∀x∈L2,x.key≠e.key:=fun x hx hxe=>by
  have h1:SE.rw x∈zCa seen L:=h.perm.mem_iff.1 (List.mem_map.2 ⟨x,hx,rfl⟩);obtain ⟨y,hy,hy2⟩:=List.mem_map.1 h1;obtain ⟨hy3,hy4⟩:=List.mem_filter.1 hy;have h2:y.key=e.key:=by rw [←hxe];exact congrArg Rw.key hy2
  rw [zKi hL.keys hy3 he h2] at hy4;exact hs (by simpa using hy4)
 refine ⟨hk,?_,?_,fun x hx=>?_⟩
 ·rw [List.map_append];exact zIV hL.borns he hs h.perm
 ·rw [List.map_append,List.nodup_append];refine ⟨h.borns,by simp,fun a ha b hb he=>?_⟩;obtain ⟨x,hx,rfl⟩:=List.mem_map.1 ha;simp at hb;have:=h.lt x hx;omega
 ·rcases List.mem_append.1 hx with hx | hx
  ·have:=h.lt x hx;omega
  ·simp at hx;rw [hx];simp
theorem Cpy.all {seen:List Nat} {L L2:List SE} {clock c2:Nat} {R:List Rw} (h:Cpy seen L L2 c2) (hL:SesOk L clock R) (hs:∀e∈L,e.born∈seen):SesOk L2 c2 R:=by
 have h1:=h.perm;rw [zJ9 hs] at h1;exact ⟨h1.trans hL.perm,hL.ups,h.borns,h.lt⟩
theorem zCQ (b:Nat) (R:List Rw) (a:Option Addr) (n cap:Nat) (C:List Ch) (hn:C.length=n) (hn2:n≤100000) :
 Does Tryz.prog 150 #[.map (some b),.slice a n cap] [StM b R,(.imm fun w=>ValsAt w a (chs C))] (fun b':Nat=>(.map (some b'),[StM b R,StM b' (C.foldl appR R),(.imm fun w=>ValsAt w a (chs C))])):=by
 intro S W w L0 hO;simp only [CA] at hO;obtain ⟨⟨clock,L⟩,hO⟩:=hO.ofEx;replace hO:=hO.unpack;dsimp only at hO;simp only [CA] at hO;(replace hf:=fa_ hO);have hok:=hO.factOf (r:=.pure (SesOk L clock R)) pk_;have hold:=hok.old;have hborn:=hok.born;go_enter Tryz.func150,Tryz.ntmps150;go_wp2_with (first|((with_reducible show wpList _ _ _ (Oper.mk _ (.makeMap _ _) _ _ _ _::_) _ _);(refine zFG hO rfl rfl ?_;clear hO;intro b9 w9 hO;(replace hf:=fa_ hO)))|(at_range;(refine zDK (b:=b) hO pk_ rfl _ rfl Tryz.underlying229 rfl ?_;clear hO;intro r9 w9 hO;(replace hf:=fa_ hO)))|(refine sq_ ?_;clear hO hf;intro w9 hO hf));simp [go_sem];have hO9:=hO;clear hO hf;go_loopw [] (fun wr=>∃(seen:List Nat) (c2:Nat) (L2:List SE),Hid (Cpy seen L L2 c2)∧Own S W wr ([ItR r9 b clock seen clock,MapR b (L.map SE.en) clock,MapR b9 (L2.map SE.en) c2,(.imm fun w=>ValsAt w a (chs C))]++L0)) (fun wr=>zET (zFO r9 wr) L)
 case atStart=>exact ⟨[],0,[],Lib.hid (Cpy.none L),by (try simp only [CA]);rw [List.map_nil];exact hO9.cut sb_⟩
 case round=>
  clear hO9;obtain ⟨seen,c2,L2,HC,hO⟩:=hrel;rename World=>w1
  simp only [List.cons_append,List.nil_append] at hO;have hseen:=zAr hO (.here _ _);rw [hseen];(replace hf:=fa_ hO);by_cases hall:∀x∈L.map SE.en,x.born∈seen
  ·have HS:=Lib.hid (HC.out.all hok fun e he=>hall _ (List.mem_map.2 ⟨e,he,rfl⟩));go_wp2_with (first|(at_next;(refine zBs (b:=b) hO pk_ pk_ rfl _ rfl rfl hold (Nat.le_refl _) (fun _=>?_) (fun x8 _ hx8 hn8 _=>absurd (hall x8 hx8) hn8)))|(refine sq_ ?_;clear hO;(try clear hf);intro w9 hO hf));have hO9:=hO.cut (l':=[MapR b (L.map SE.en) clock,MapR b9 (L2.map SE.en) c2,(.imm fun w=>ValsAt w a (chs C))]++L0) (by (try simp only [CA]);exact sb_);clear hO hf;go_loopw [23] (fun v wr=>∃(i c3:Nat) (L3:List SE),v=.int .i64 i∧i≤n∧Hid (SesOk L3 c3 ((C.take i).foldl appR R))∧Own S W wr ([MapR b (L.map SE.en) clock,MapR b9 (L3.map SE.en) c3,(.imm fun w=>ValsAt w a (chs C))]++L0)) (fun v _=>n-(intOf v).toNat)
   case atStart=>exact ⟨0,c2,L2,rfl,by omega,HS,hO9⟩
   case round=>
    clear hO9;obtain ⟨i,c3,L3,rfl,hi,HL,hO⟩:=hrel;rename World=>w2
    simp only [List.cons_append,List.nil_append] at hO;(replace hf:=fa_ hO);by_cases hlt:i<n
    ·have hi2:i<C.length:=by omega
     obtain ⟨b1,off,rfl⟩:=ChAt.some (a:=a) (Own.immOf (φ:=fun w=>ValsAt w a (chs C)) hO pk_) (by omega);have HT:=Lib.hid (show (C.take (i+1)).foldl appR R=appR ((C.take i).foldl appR R) C[i] by rw [List.take_add_one,List.getElem?_eq_getElem hi2,List.foldl_append];rfl);have hcy:=fun w h=>ChAt.at (w:=w) (l:=C) (b:=b1) (off:=off) h hi2
     obtain ⟨c0,c1,c2'⟩:=hcy _ (Own.immOf (φ:=fun w=>ValsAt w (some ⟨b1,off,none⟩) (chs C)) hO pk_);generalize C[i]=c at *;obtain ⟨k,v,g⟩:=c;dsimp only at *;cases g with
     | true=>
      go_wp2_with (first|((with_reducible show wpList _ _ _ (Oper.mk _ (.call { callee:=.builtin .delete,args:=_,argTypes:=_ }) _ _ _ _::_) _ _);(refine zD8 (b:=b9) hO pk_ rfl _ _ rfl Tryz.underlying229 Tryz.underlying9 rfl rfl ?_;clear hO;intro w9 hO;(replace hf:=fa_ hO)))|(refine sq_ ?_;clear hO;(try clear hf);intro w9 hO hf));refine ⟨⟨i+1,c3,delS k L3,by go_num,by omega,Lib.hid (by rw [HT.out];exact HL.out.del k v),?_⟩,by simp [intOf];omega⟩;rw [←zQR];(try simp only [CA]);exact hO.cut sb_
     | false=>
      rcases zQk k L3 with ⟨h1,h2⟩ | ⟨h1,h2⟩
      ·have HN:=Lib.hid h2;clear h2;go_wp2_with (first|(with_reducible show wpList _ _ _ (Oper.mk _ (.mapUpdate _ _ _ _) _ _ _ _::_) _ _;(refine zDC (b:=b9) hO pk_ rfl _ _ _ rfl Tryz.underlying229 Tryz.underlying9 rfl rfl (.string v) rfl h1 ?_;clear hO;intro w9 hO;(replace hf:=fa_ hO)))|(refine sq_ ?_;clear hO;(try clear hf);intro w9 hO hf));refine ⟨⟨i+1,c3+1,L3++[⟨k,v,c3⟩],by go_num,by omega,Lib.hid (by rw [HT.out];exact HL.out.add v HN.out),?_⟩,by simp [intOf];omega⟩;rw [show (L3++[(⟨k,v,c3⟩:SE)]).map SE.en=L3.map SE.en++[⟨k,.string v,c3⟩] from by rw [List.map_append];rfl];(try simp only [CA]);exact hO.cut sb_
      ·have HN:=Lib.hid h2;clear h2;go_wp2_with (first|(with_reducible show wpList _ _ _ (Oper.mk _ (.mapUpdate _ _ _ _) _ _ _ _::_) _ _;(refine zB3 (b:=b9) hO pk_ rfl _ _ _ rfl Tryz.underlying229 Tryz.underlying9 rfl rfl (.string v) rfl h1 ?_;clear hO;intro w9 hO;(replace hf:=fa_ hO)))|(refine sq_ ?_;clear hO;(try clear hf);intro w9 hO hf));refine ⟨⟨i+1,c3,setS k v L3,by go_num,by omega,Lib.hid (by rw [HT.out];exact HL.out.set v HN.out),?_⟩,by simp [intOf];omega⟩;rw [←zPk];(try simp only [CA]);exact hO.cut sb_
    ·have HZ:=HL.out;rw [List.take_of_length_le (by omega)] at HZ;have HZ:=Lib.hid HZ;go_wp2_with (refine sq_ ?_;clear hO;(try clear hf);intro w9 hO hf);have hO:=(hO.toPure (p:=SesOk L clock R) hok).toPure (p:=SesOk L3 c3 (C.foldl appR R)) HZ.out;have h8:Own S W w2 (StM b9 (C.foldl appR R)::MapR b (L.map SE.en) clock::.pure (SesOk L clock R)::(.imm fun w=>ValsAt w a (chs C))::L0):=Own.toEx (c3,L3) (Own.pack (by dsimp only;(try simp only [CA]);exact hO.cut sb_));go_ret;refine ⟨b9,rfl,?_⟩;(try simp only [CA]);refine Own.toEx (clock,L) (Own.pack ?_);dsimp only;(try simp only [CA]);exact h8.cut sb_
  ·obtain ⟨HC2,HC3⟩:(∀e∈L,e.born∉seen→getE e.key (L2.map SE.en)=none)∧Hid (∀e∈L,e.born∉seen→Cpy (seen++[e.born]) L (L2++[⟨e.key,e.val,c2⟩]) (c2+1)):=⟨fun e he hs=>zEF fun x hx=>by
    obtain ⟨y,hy,rfl⟩:=List.mem_map.1 hx;exact (HC.out.step hok he hs).1 y hy,Lib.hid fun e he hs=>(HC.out.step hok he hs).2⟩
   go_wp2_with (first|(at_next;(refine zBs (b:=b) hO pk_ pk_ rfl _ rfl rfl hold (Nat.le_refl _) (fun h8=>absurd h8 hall) ?_;clear hO;intro x9 w9 hx9 hn9 hO;obtain ⟨e9,he9,rfl⟩:=List.mem_map.1 hx9;clear hx9;(replace hf:=fa_ hO)))|(with_reducible show wpList _ _ _ (Oper.mk _ (.entry _) _ _ _ _::_) _ _;(refine zDM (b:=b) (x:=SE.en e9) hO pk_ pk_ rfl _ rfl rfl (List.mem_map.2 ⟨e9,he9,rfl⟩) hborn ?_;dsimp only [SE.en]))|(with_reducible show wpList _ _ _ (Oper.mk _ (.mapUpdate _ _ _ _) _ _ _ _::_) _ _;(refine zDC (b:=b9) hO pk_ rfl _ _ _ rfl Tryz.underlying229 Tryz.underlying9 rfl rfl (.string e9.val) rfl (HC2 e9 he9 (by simpa [SE.en] using hn9)) ?_;clear hO;intro w9 hO;(replace hf:=fa_ hO)))|(refine sq_ ?_;clear hO;(try clear hf);intro w9 hO hf));have e3:=zAr hO pk_;rw [e3];refine And.intro ?_ (zHt he9 hn9);(repeat apply Exists.intro);refine And.intro ?_ rfl;refine ⟨seen++[(SE.en e9).born],c2+1,L2++[(⟨e9.key,e9.val,c2⟩:SE)],Lib.hid (HC3.out e9 he9 hn9),?_⟩;rw [show (L2++[(⟨e9.key,e9.val,c2⟩:SE)]).map SE.en=L2.map SE.en++[⟨e9.key,.string e9.val,c2⟩] from by rw [List.map_append];rfl];(try simp only [CA]);exact hO.cut sb_
theorem zRV (x y:Rw) (W:World):Calls Tryz.prog 164 #[.agg (rwC x).toArray,.agg (rwC y).toArray] W fun e w'=>e=.returned (.int .i64 (zC3 x y))∧∃q os',w'=grow (W.drewN q) os':=by
 have hcon:=fun W'=>Tryz.strings_Compare x.key y.key W'
 change ∀W',Calls Tryz.prog 165 _ _ _ at hcon;have hc:Lib.compareBytes x.key.data.toList y.key.data.toList=zC3 x y:=rfl;rw [hc] at hcon;clear hc;unfold rwC;generalize zC3 x y=r at hcon ⊢;go_enter Tryz.func164,Tryz.ntmps164;go_wp2_with (go_at_call 165;refine (hcon _).mono ?_;rintro e w' ⟨rfl,rfl⟩);go_ret;exact ⟨rfl,0,_,by rw [alloc_eq_grow,alloc_eq_grow,grow_grow];rfl⟩
theorem zJX (a:Option Addr) (n cap:Nat) (l:List Rw) (hl:l.length=n) (hn:n≤1000000) :
 Does Tryz.prog 163 #[.slice a n cap,.func (.func 164) #[] #[]] [Row2 177 2 a n cap (l.flatMap rwC)]
  (fun l':List Rw=>(.tuple #[],[Row2 177 2 a n cap (l'.flatMap rwC),.pure (l'.Perm l∧l'.Pairwise fun x y=>slt y.key x.key=false)])):=by
 intro S W w L0 hO;simp only [List.cons_append,List.nil_append] at hO;rcases Nat.eq_zero_or_pos n with h0 | h0
 ·subst h0;have hl0:=List.length_eq_zero_iff.1 hl;subst hl0;have hc:=AnyF.slices_SortFunc_none Tryz.sortRow a cap (.func (.func 164) #[] #[]) w;refine Calls.mono (show Calls Tryz.prog 163 _ _ _ from hc) ?_;rintro e w' ⟨rfl,rfl⟩;refine ⟨[],rfl,?_⟩;have h8:=hO.toPure (p:=([]:List Rw).Perm []∧([]:List Rw).Pairwise fun x y=>slt y.key x.key=false) ⟨.refl _,.nil⟩;dsimp only;(try simp only [CA]);exact h8.cut sb_
 ·obtain ⟨g,rfl,hfz,hg⟩:=hO.rowAt (.here _ _) h0;have hv:ValsAt w (some ⟨g,0,none⟩) (l.toArray.toList.flatMap rwC):=by
   rw [List.toList_toArray];exact hO.facts.1.1
  have hH:=zHT (enc:=rwC) (k:=2) (d:=l.toArray) hv hfz (fun _=>rfl) (by omega);have eg:∀args w,(callFunc 164 args).run Tryz.prog w=.ok (.enter 164 args) w:=enters_of Tryz.func164 (by kernel_rfl) rfl;have hs:l.toArray.size=n:=by simp [hl]
  have hcon:=AnyQ.slices_SortFunc Tryz.sortRow 2 Tryz.isAgg177 Tryz.sizeOf177 rwC (fun _=>rfl) (fun x v hv=>by simp [rwC] at hv;rcases hv with rfl | rfl<;>rfl) zC3 zQS 164 #[] g 0 cap l.toArray w eg (fun _ _ _ _ x y=>zRV x y _) hH hg (by rw [hs];omega);rw [hs] at hcon;refine Calls.mono (show Calls Tryz.prog 163 _ _ _ from hcon) ?_;rintro e w' ⟨rfl,d',m,os,hp,hso,rfl⟩;rw [←hs] at hp hso;have hp2:=zJ7 hp;have hd:d'.size=n:=by have:=hp2.length_eq;simp at this;omega
  have hso2:=zHW (lt:=ltOf zC3) (d:=d') (by rw [show d'.size=l.toArray.size from by omega];exact hso);have h8:=hO.sorted (m:=m) (os:=os) (d':=d') (enc:=rwC) (.here _ _) (fun _=>rfl) (by omega) hd;have h9:=h8.toPure (p:=d'.toList.Perm l∧d'.toList.Pairwise fun x y=>slt y.key x.key=false) ⟨by simpa using hp2,hso2.imp fun {a b} h=>by rw [zIv] at h;exact h⟩;refine ⟨d'.toList,rfl,?_⟩;dsimp only;(try simp only [CA]);exact h9.cut sb_
def stC (p e si sz fi q b:Nat):List Value:=[.pointer (some ⟨p,0,none⟩),.int .i64 e,.int .i64 si,.int .i64 sz,.int .i64 fi,.pointer (some ⟨q,0,none⟩),.map (some b)]
theorem zQI (seen:List Nat) (L:List SE):(zCa seen L).length≤L.length:=by
 have:=(zQW seen L).length_le;rw [List.length_map] at this;exact this
theorem zFe (s b:Nat) (R:List Rw) (hR:R.length≤1000) (d h0 h1 h2 h3 lg:Value) :
 Does Tryz.prog 83 #[.pointer (some ⟨s,0,none⟩)] [Var s [d,h0,h1,h2,h3,lg,.map (some b)] 233,StM b R]
  (fun x:Option Addr×Nat=>(.slice x.1 R.length x.2,[Var s [d,h0,h1,h2,h3,lg,.map (some b)] 233,StM b R,Row2 177 2 x.1 R.length x.2 (R.flatMap rwC)])):=by
 obtain ⟨iR,hiR,hzR,hsR,hbR⟩:=info_parts Tryz.infoRw;intro S W w L0 hO;simp only [CA] at hO;obtain ⟨⟨clock,L⟩,h8⟩:=(hO.pick (r:=StM b R) pk_).ofEx;replace hO:=h8.unpack;clear h8;dsimp only at hO;simp only [List.cons_append,List.nil_append] at hO;have hok:=hO.factOf (r:=.pure (SesOk L clock R)) pk_;have hold:=hok.old;have hborn:=hok.born;have hlen:=hok.len;(replace hf:=fa_ hO);go_enter Tryz.func83,Tryz.ntmps83;go_wp2_with (first|(at_range;(refine zDK (b:=b) hO pk_ rfl _ rfl Tryz.underlying229 rfl ?_;clear hO;intro r9 w9 hO;(replace hf:=fa_ hO)))|(refine sq_ ?_;clear hO hf;intro w9 hO hf));simp [go_sem];have hO9:=hO.nil 177 2;clear hO hf;go_loopw [3] (fun v wr=>∃(seen:List Nat) (oa:Option Addr) (oc:Nat) (O:List Rw),v=.slice oa O.length oc∧Hid (O.Perm (zCa seen L))∧Own S W wr ([ItR r9 b clock seen clock,Row2 177 2 oa O.length oc (O.flatMap rwC),Var s [d,h0,h1,h2,h3,lg,.map (some b)] 233,MapR b (L.map SE.en) clock]++L0)) (fun v wr=>zET (zFO r9 wr) L)
 case atStart=>exact ⟨[],none,0,[],rfl,Lib.hid (show ([]:List Rw).Perm (zCa [] L) by rw [zKN]),(by simp only [List.length_nil,List.flatMap_nil,List.cons_append,List.nil_append];exact hO9.cut sb_)⟩
 case round=>
  clear hO9;obtain ⟨seen,oa,oc,O,rfl,HP,hO⟩:=hrel;rename World=>w1
  simp only [List.cons_append,List.nil_append] at hO;have hseen:=zAr hO (.here _ _);rw [hseen];(replace hf:=fa_ hO);have hOn:O.length≤1000000:=by have h:=(show O.Perm (zCa seen L) from HP.out).length_eq;have h3:=zQI seen L;omega
  by_cases hall:∀x∈L.map SE.en,x.born∈seen
  ·have e1:=zJ9 fun e he=>hall _ (List.mem_map.2 ⟨e,he,rfl⟩)
   rw [e1] at HP;have HS:=zJX oa O.length oc O rfl hOn;go_wp2_with (first|(at_next;(refine zBs (b:=b) hO pk_ pk_ rfl _ rfl rfl hold (Nat.le_refl _) (fun _=>?_) (fun x8 _ hx8 hn8 _=>absurd (hall x8 hx8) hn8)))|(go_at_call 163;(with_reducible refine Does.use hO (HS) tk_ (du_ ?_);clear hO;(try clear hf);intro x9 w9 hO hf))|(refine sq_ ?_;clear hO;(try clear hf);intro w9 hO hf));rename List Rw=>O'
   obtain ⟨hp1,hp2⟩:=hO.factOf (r:=.pure (O'.Perm O∧O'.Pairwise fun x y=>slt y.key x.key=false)) pk_;have e2:=zQN hok.ups ((hp1.trans HP.out).trans hok.perm) hp2;have e3:O.length=R.length:=by rw [←e2];exact hp1.length_eq.symm
   rw [e2,e3] at hO;rw [e3];have hO:=hO.toPure (p:=SesOk L clock R) hok;have h8:Own S W _ (StM b R::Var s [d,h0,h1,h2,h3,lg,.map (some b)] 233::Row2 177 2 oa R.length oc (R.flatMap rwC)::L0):=Own.toEx (clock,L) (Own.pack (by dsimp only;(try simp only [CA]);exact hO.cut sb_));go_ret;refine ⟨(oa,oc),rfl,?_⟩;dsimp only;(try simp only [CA]);exact h8.cut sb_
  ·go_wp2_with (first|(at_next;(refine zBs (b:=b) hO pk_ pk_ rfl _ rfl rfl hold (Nat.le_refl _) (fun h8=>absurd h8 hall) ?_;clear hO;intro x9 w9 hx9 hn9 hO;obtain ⟨e9,he9,rfl⟩:=List.mem_map.1 hx9;clear hx9;(replace hf:=fa_ hO)))|(with_reducible show wpList _ _ _ (Oper.mk _ (.entry _) _ _ _ _::_) _ _;(refine zDM (b:=b) (x:=SE.en e9) hO pk_ pk_ rfl _ rfl rfl (List.mem_map.2 ⟨e9,he9,rfl⟩) hborn ?_;dsimp only [SE.en]))|(at_builtin;(refine zAH (e:=177) (size:=2) (xs:=O.flatMap rwC) (news:=[.string e9.key,.string e9.val]) hO pk_ pk_ rfl (.tmp 16) (.tmp 20) 32 rfl iR _ 32 Tryz.underlying32 hiR hzR hsR hbR rfl (by omega) rfl _ _ rfl (by rfl) (by repeat (first | exact zAp | refine zAf rfl ?_)) (by unfold maxLen;omega) (by omega) ?_;clear hO;intro ka9 kc9 w9 hO;(replace hf:=fa_ hO)))|(refine sq_ ?_;clear hO;(try clear hf);intro w9 hO hf));have HST:=Lib.hid (zIV (O:=O) hok.borns he9 (by simpa [SE.en] using hn9) HP.out);have e3:=zAr hO pk_;rw [e3];have hl:(O++[(⟨e9.key,e9.val⟩:Rw)]).length=O.length+1:=by rw [List.length_append];rfl
   refine ⟨⟨seen++[(SE.en e9).born],ka9,kc9,O++[(⟨e9.key,e9.val⟩:Rw)],by rw [hl],HST,?_⟩,zHt he9 hn9⟩;rw [hl,zKP];(try simp only [CA]);exact hO.cut sb_
end Go.Proofs.YtagcmjmcjpjihaaGreatDoor
namespace Go.Proofs.YtagcmjmcjpjihaaGreatDoor
open Go.RowKit
