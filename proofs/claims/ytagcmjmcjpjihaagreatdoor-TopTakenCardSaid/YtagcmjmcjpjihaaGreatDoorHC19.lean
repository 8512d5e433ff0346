/- Texts Ver5, VerP, Ver6 of this claim, laid together. -/
import Derived.Test.YtagcmjmcjpjihaaGreatDoorHC17
import Derived.Test.YtagcmjmcjpjihaaGreatDoorHC12
set_option linter.unusedVariables false
set_option linter.unusedSimpArgs false
set_option maxHeartbeats 8000000
set_option maxRecDepth 100000
namespace Go.Proofs.YtagcmjmcjpjihaaGreatDoor
open Go.RowKit
theorem zRz (vs:List Vn):∀u∈vs.flatMap verC,u.oneCell'=true:=fun u hu=>by
 obtain ⟨x,_,hx⟩:=List.mem_flatMap.1 hu;simp only [verC,List.mem_cons,List.not_mem_nil,or_false] at hx;rcases hx with rfl | rfl | rfl<;>rfl
theorem zCl (g off c:Nat) (vs:List Vn) (hn:vs.length≤1000000) :
 Does Tryz.prog 154 #[.slice (some ⟨g,off,none⟩) vs.length c] [.imm fun w=>ValsAt w (some ⟨g,off,none⟩) (vs.flatMap verC)]
  (fun x:Option Addr×Nat=>(.slice x.1 vs.length x.2,[Row2 239 3 x.1 vs.length x.2 (vs.flatMap verC),.imm fun w=>ValsAt w (some ⟨g,off,none⟩) (vs.flatMap verC)])):=by
 obtain ⟨iV,hiV,hzV,hsV,hbV⟩:=info_parts Tryz.infoVn;have hl:=zEz verC 3 (fun _=>rfl) vs;intro S W w L0 hO;simp only [CA] at hO;(replace hf:=fa_ hO);have hu:=Tryz.underlying237;go_enter Tryz.func154,Tryz.ntmps154;have HL:=Lib.hid hl;clear hl;go_wp2_with (first|(at_builtin;(have hO9:=hO.pick (r:=Var _ [] 239) pk_;replace hO:=Own.varRow (n:=0) (size:=3) rfl (by simp [maxLen]) hO9;clear hO9;refine zDA hO pk_ rfl (.tmp 5) (.tmp 6) 237 rfl iV _ 32 Tryz.underlying237 hiV hzV hsV hbV rfl (by omega) rfl (some ⟨g,off,none⟩) vs.length c (vs.flatMap verC) rfl HL.out (Own.immOf (φ:=fun w=>ValsAt w (some ⟨g,off,none⟩) (vs.flatMap verC)) hO pk_) (zRz vs) (by unfold maxLen;omega) (by omega) ?_;clear hO;intro ka9 kc9 w9 hO;(replace hf:=fa_ hO)))|(refine sq_ ?_;clear hO hf;intro w9 hO hf));go_ret;refine ⟨(ka9,kc9),by simp,?_⟩;simp only [Nat.zero_add,List.nil_append] at hO;exact hO.give tk_ kp_
end Go.Proofs.YtagcmjmcjpjihaaGreatDoor
namespace Go.Proofs.YtagcmjmcjpjihaaGreatDoor
def zBx (n:Int):List Vn→List Vn
 | []=>[]
 | x::l=>match l with
  | []=>[x]
  | y::_=>if (y.n:Int)≤n then zBx n l else x::l
def cutV (n:Int):List Vn→List Vn
 | []=>[]
 | x::l=>if x.gone=true∧(x.n:Int)≤n then l else x::l
def zAc (n:Int) (vs:List Vn):List Vn:=cutV n (zBx n vs)
def vacV (n:Int):List (ByteArray×List Vn)→List (ByteArray×List Vn)
 | []=>[]
 | e::V=>if zAc n e.2=[] then vacV n V else (e.1,zAc n e.2)::vacV n V
inductive Vac (n:Int) (seen:List Nat):List VE→List VE→Prop
 | nil:Vac n seen [] []
 | keep {e:VE} {l l':List VE}:e.born∉seen→Vac n seen l l'→Vac n seen (e::l) (e::l')
 | drop {e:VE} {l l':List VE}:e.born∈seen→zAc n e.vs=[]→Vac n seen l l'→Vac n seen (e::l) l'
 | turn {e e':VE} {l l':List VE}:e.born∈seen→e'.key=e.key→e'.born=e.born→e'.vs=zAc n e.vs→zAc n e.vs≠[]→Vac n seen l l'→Vac n seen (e::l) (e'::l')
theorem Vac.start (n:Int):∀L:List VE,Vac n [] L L
 | []=>.nil
 | _::l=>.keep (List.not_mem_nil) (Vac.start n l)
theorem Vac.keys {n:Int} {seen:List Nat} {L L':List VE} (h:Vac n seen L L'):(L'.map VE.key).Sublist (L.map VE.key):=by
 induction h with
 | nil=>exact .slnil
 | keep _ _ ih=>exact ih.cons_cons _
 | drop _ _ _ ih=>exact ih.cons _
 | turn _ hk _ _ _ _ ih=>rw [List.map_cons,List.map_cons,hk];exact ih.cons_cons _
theorem Vac.borns {n:Int} {seen:List Nat} {L L':List VE} (h:Vac n seen L L'):(L'.map VE.born).Sublist (L.map VE.born):=by
 induction h with
 | nil=>exact .slnil
 | keep _ _ ih=>exact ih.cons_cons _
 | drop _ _ _ ih=>exact ih.cons _
 | turn _ _ hb _ _ _ ih=>rw [List.map_cons,List.map_cons,hb];exact ih.cons_cons _
theorem Vac.ok {n:Int} {seen:List Nat} {L L':List VE} {clock:Nat} (h:Vac n seen L L') (hok:VesOk L clock):VesOk L' clock where
 keys:=h.keys.nodup hok.keys
 borns:=h.borns.nodup hok.borns
 lt:=fun e he=>by
  obtain ⟨x,hx,hb⟩:=List.mem_map.1 (h.borns.subset (List.mem_map.2 ⟨e,he,rfl⟩));rw [←hb];exact hok.lt x hx
theorem Vac.all {n:Int} {seen:List Nat} {L L':List VE} (h:Vac n seen L L') (ha:∀e∈L',e.born∈seen):L'.map VE.kv=vacV n (L.map VE.kv):=by
 induction h with
 | nil=>rfl
 | keep h1 _ ih=>exact absurd (ha _ (List.mem_cons_self ..)) h1
 | drop _ h2 _ ih=>
  rw [List.map_cons,vacV,if_pos (show zAc n (VE.kv _).2=[] from h2)];exact ih ha
 | turn _ hk _ hv hne _ ih=>
  rw [List.map_cons,List.map_cons,vacV,if_neg (show ¬zAc n (VE.kv _).2=[] from hne),ih fun e he=>ha e (List.mem_cons_of_mem _ he)];unfold VE.kv;rw [hk,hv]
theorem Vac.more {n:Int} {seen:List Nat} {L L':List VE} {b:Nat} (h:Vac n seen L L'):(∀x∈L,x.born≠b)→Vac n (seen++[b]) L L':=by
 induction h with
 | nil=>exact fun _=>.nil
 | keep h1 _ ih=>exact fun hb=>.keep (by simp [h1,hb _ (List.mem_cons_self ..)]) (ih fun x hx=>hb x (List.mem_cons_of_mem _ hx))
 | drop h1 h2 _ ih=>exact fun hb=>.drop (List.mem_append_left _ h1) h2 (ih fun x hx=>hb x (List.mem_cons_of_mem _ hx))
 | turn h1 h2 h3 h4 h5 _ ih=>exact fun hb=>.turn (List.mem_append_left _ h1) h2 h3 h4 h5 (ih fun x hx=>hb x (List.mem_cons_of_mem _ hx))
theorem Vac.step {n:Int} {seen:List Nat} {L L':List VE} {e:VE} {B R:List VE} (h:Vac n seen L L') (hR:∀l,Vac n (seen++[e.born]) l B→Vac n (seen++[e.born]) (e::l) R) (hs:e.born∉seen) :
 ∀{A:List VE},L'=A++e::B→(L.map VE.born).Nodup→Vac n (seen++[e.born]) L (A++R):=by
 induction h with
 | nil=>intro A hA _;cases A<;>cases hA
 | keep h1 h2 ih=>
  intro A hA hn;rw [List.map_cons,List.nodup_cons] at hn;cases A with
  | nil=>
   injection hA with e1 e2
   subst e1 e2;exact hR _ (h2.more fun x hx he=>hn.1 (List.mem_map.2 ⟨x,hx,he⟩))
  | cons a A=>
   injection hA with e1 e2
   subst e1;refine .keep ?_ (ih e2 hn.2);simp only [List.mem_append,List.mem_singleton,not_or];refine ⟨h1,fun he=>hn.1 ?_⟩;rw [he];exact h2.borns.subset (List.mem_map.2 ⟨e,by rw [e2];simp,rfl⟩)
 | drop h1 h2 _ ih=>
  intro A hA hn;rw [List.map_cons,List.nodup_cons] at hn;exact .drop (List.mem_append_left _ h1) h2 (ih hA hn.2)
 | turn h1 h2 h3 h4 h5 _ ih=>
  intro A hA hn;rw [List.map_cons,List.nodup_cons] at hn;cases A with
  | nil=>
   injection hA with e1 e2
   subst e1;exact absurd (h3 ▸ h1) hs
  | cons a A=>
   injection hA with e1 e2
   subst e1;exact .turn (List.mem_append_left _ h1) h2 h3 h4 h5 (ih e2 hn.2)
end Go.Proofs.YtagcmjmcjpjihaaGreatDoor
namespace Go.Proofs.YtagcmjmcjpjihaaGreatDoor
open Go.RowKit
theorem zMr {e:VE}:∀{L:List VE},(L.map VE.key).Nodup→e∈L→∃A B,L=A++e::B∧∀x∈A,x.key≠e.key
 | x::l,hn,hm=>by
  rw [List.map_cons,List.nodup_cons] at hn;rcases List.mem_cons.1 hm with rfl | hm
  ·exact ⟨[],l,rfl,fun _ h=>(List.not_mem_nil h).elim⟩
  ·obtain ⟨A,B,rfl,hA⟩:=zMr hn.2 hm;refine ⟨x::A,B,rfl,fun y hy=>?_⟩;rcases List.mem_cons.1 hy with rfl | hy
   ·exact fun he=>hn.1 (he ▸ List.mem_map.2 ⟨e,by simp,rfl⟩)
   ·exact hA y hy
theorem zHA {k:ByteArray} {e:VE} {B:List VE} (hk:e.key=k):∀{A:List VE},(∀x∈A,x.key≠k)→delE k ((A++e::B).map VE.en)=(A++B).map VE.en
 | [],_=>by rw [List.nil_append,List.map_cons,delE,if_pos (show (VE.en e).key=k from hk)];rfl
 | x::A,h=>by
  have h1:=zHA (B:=B) hk (A:=A) fun y hy=>h y (List.mem_cons_of_mem _ hy)
  rw [List.cons_append,List.map_cons,delE,if_neg (show ¬(VE.en x).key=k from h x (List.mem_cons_self ..)),h1];rfl
theorem zS0 {n:Int} {vs:List Vn} {k:Nat} (h:k+1<vs.length) (hy:((vs[k+1]).n:Int)≤n):zBx n (vs.drop k)=zBx n (vs.drop (k+1)):=by
 rw [List.drop_eq_getElem_cons (show k<vs.length by omega),List.drop_eq_getElem_cons h,zBx];rw [if_pos hy]
theorem zKb {n:Int} {vs:List Vn} {k:Nat} (h:∀h:k+1<vs.length,¬((vs[k+1]).n:Int)≤n):zBx n (vs.drop k)=vs.drop k:=by
 by_cases hk:k<vs.length
 ·rw [List.drop_eq_getElem_cons hk];by_cases hk1:k+1<vs.length
  ·rw [List.drop_eq_getElem_cons hk1,zBx];rw [if_neg (h hk1)]
  ·rw [List.drop_of_length_le (show vs.length≤k+1 by omega)];rfl
 ·rw [List.drop_of_length_le (show vs.length≤k by omega)];rfl
theorem zGT {α:Type} (f:α→List Value) (s:Nat) (hf:∀x,(f x).length=s):∀(l:List α) (k:Nat),(l.drop k).flatMap f=(l.flatMap f).drop (k*s)
 | l,0=>by simp
 | [],k+1=>by simp
 | x::l,k+1=>by
  have e:(k+1)*s=(f x).length+k*s:=by rw [hf,Nat.succ_mul];omega
  rw [List.drop_succ_cons,zGT f s hf l k,List.flatMap_cons,e,List.drop_length_add_append]
theorem zE1 {w:World} {g off:Nat} {xs:List Value} (m:Nat) (h:ValsAt w (some ⟨g,off,none⟩) xs):ValsAt w (some ⟨g,off+m,none⟩) (xs.drop m):=by
 refine .inr ⟨g,off+m,rfl,fun i hi=>?_⟩;have h1:=ValsAt.get h (i:=m+i) (List.getElem?_eq_getElem (by rw [List.length_drop] at hi;omega));rw [←Nat.add_assoc] at h1;rw [h1,List.getElem_drop]
theorem zBy {seen:List Nat} {b:Nat} {L:List VE} (h:b∈L.map VE.born) (hs:b∉seen):zCe (seen++[b]) L<zCe seen L:=by
 obtain ⟨e,he,rfl⟩:=List.mem_map.1 h;exact zEt he hs
theorem zQo (p nn:Nat) (V:List (ByteArray×List Vn)) (n:Int) (hV:∀e∈V,e.2.length≤100000) :
 Does Tryz.prog 78 #[.pointer (some ⟨p,0,none⟩),.int .i64 n] [VerR p nn V] (fun _:Unit=>(.tuple #[],[VerR p nn (vacV n V)])):=by
 intro S W w L0 hO;simp only [CA] at hO;obtain ⟨⟨b,clock,L⟩,hO⟩:=hO.ofEx;replace hO:=hO.unpack;dsimp only at hO;simp only [CA] at hO;(replace hf:=fa_ hO);have hVk:L.map VE.kv=V∧VesOk L clock:=hO.factOf (r:=.pure (L.map VE.kv=V∧VesOk L clock)) pk_;obtain ⟨hVe,hok⟩:=hVk;subst hVe;go_enter Tryz.func78,Tryz.ntmps78;go_wp2_with (first|(at_range;(refine zDK hO pk_ rfl _ rfl Tryz.underlying234 rfl ?_;clear hO;intro r9 w9 hO;(replace hf:=fa_ hO)))|(refine sq_ ?_;clear hO hf;intro w9 hO hf));have hO9:=hO;clear hO hf;go_loopw [] (fun wr=>∃(seen:List Nat) (L':List VE),Hid (Vac n seen L L')∧Hid (∀e∈L',e.vs.length≤100000)∧Own S W wr ([ItR r9 b clock seen clock,Var p [.map (some b),.int .i64 nn] 236,MapR b (L'.map VE.en) clock,Rows L']++L0)) (fun wr=>zCe (zFO r9 wr) L)
 case atStart=>exact ⟨[],L,Lib.hid (Vac.start n L),Lib.hid (fun e he=>hV e.kv (List.mem_map.2 ⟨e,he,rfl⟩)),by (try simp only [CA]);exact hO9.cut sb_⟩
 case round=>
  clear hO9;obtain ⟨seen,L',HV,HLN,hO⟩:=hrel;rename World=>w1
  simp only [List.cons_append,List.nil_append] at hO;have hseen:=zAr hO (.here _ _);rw [hseen];have hok':=HV.out.ok hok;have hold:∀x∈L'.map VE.en,x.born<clock:=fun x hx=>by obtain ⟨e,he,rfl⟩:=List.mem_map.1 hx;exact hok'.lt e he
  have hborn:((L'.map VE.en).map En.born).Nodup:=by rw [List.map_map];exact hok'.borns
  (replace hf:=fa_ hO);by_cases hall:∀x∈L'.map VE.en,x.born∈seen
  ·go_wp2_with (first|(at_next;(refine zBs hO pk_ pk_ rfl _ rfl rfl hold (Nat.le_refl _) (fun _=>?_) (fun x8 _ hx8 hn8 _=>absurd (hall x8 hx8) hn8)))|(refine sq_ ?_;clear hO;(try clear hf);intro w9 hO hf));have e1:L'.map VE.kv=vacV n (L.map VE.kv):=HV.out.all fun e he=>hall _ (List.mem_map.2 ⟨e,he,rfl⟩)
   have hO:=hO.toPure (p:=L'.map VE.kv=vacV n (L.map VE.kv)∧VesOk L' clock) ⟨e1,hok'⟩;(go_end0;refine ⟨(),rfl,?_⟩;(try simp only [CA]);(refine Own.toEx (b,clock,L') (Own.pack ?_);dsimp only;exact hO.give tk_ kp_))
  ·go_wp2_with (first|(at_next;(refine zBs hO pk_ pk_ rfl _ rfl rfl hold (Nat.le_refl _) (fun h8=>absurd h8 hall) ?_;clear hO;intro x9 w9 hx9 hn9 hO;obtain ⟨e9,he9,rfl⟩:=List.mem_map.1 hx9;clear hx9;(replace hf:=fa_ hO)))|(with_reducible show wpList _ _ _ (Oper.mk _ (.entry _) _ _ _ _::_) _ _;(refine zDM (x:=VE.en e9) hO pk_ pk_ rfl _ rfl rfl (List.mem_map.2 ⟨e9,he9,rfl⟩) hborn ?_;dsimp only [VE.en]))|(refine sq_ ?_;clear hO;(try clear hf);intro w9 hO hf));have hlen:e9.vs.length≤100000:=HLN.out e9 he9;have hbL:e9.born∈L.map VE.born:=HV.out.borns.subset (List.mem_map.2 ⟨e9,he9,rfl⟩);obtain ⟨A,B,hL',hA⟩:=zMr hok'.keys he9;subst hL';have HIN:=Lib.hid (show (getE e9.key ((A++e9::B).map VE.en)).isSome=true by rw [zGw (e:=e9) rfl hA];rfl);have h8:=Own.outRow (e:=e9) (hO.pick (r:=Rows (A++e9::B)) pk_) List.perm_middle;unfold VE.row at h8;have hcap:=(Own.rowLen h8 (.here _ _)).2.1;have hO:=Own.toImm (φ:=fun w=>ValsAt w e9.addr (e9.vs.flatMap verC)) (r:=Row2 239 3 e9.addr e9.vs.length e9.cap (e9.vs.flatMap verC)) (fun w h=>And.left h) h8;clear h8;(replace hf:=fa_ hO);have hO9:=hO;clear hO hf;go_loopw [6] (fun v wr=>∃k:Nat,v=.int .i64 k∧(k<e9.vs.length∨k=0)∧Hid (zBx n (e9.vs.drop k)=zBx n e9.vs)∧Own S W wr ([.imm (fun w=>ValsAt w e9.addr (e9.vs.flatMap verC)),ItR r9 b clock (seen++[(VE.en e9).born]) clock,Var p [.map (some b),.int .i64 nn] 236,MapR b ((A++e9::B).map VE.en) clock,Rows (A++B)]++L0)) (fun v _=>e9.vs.length-(intOf v).toNat)
   case atStart=>exact ⟨0,rfl,.inr rfl,Lib.hid rfl,by (try simp only [CA]);exact hO9.cut sb_⟩
   case round=>
    clear hO9;obtain ⟨k,rfl,hk,HK,hO⟩:=hrel;rename World=>w2
    simp only [List.cons_append,List.nil_append] at hO;(replace hf:=fa_ hO);by_cases hlt:k+1<e9.vs.length
    ·have g0:=zAj verC 3 (fun _=>rfl) e9.vs (k+1) hlt 0 (by omega);have HG:=Lib.hid (fun (h:((e9.vs[k+1]).n:Int)≤n)=>zS0 hlt h);have HS:=Lib.hid (fun (h:¬((e9.vs[k+1]).n:Int)≤n)=>zKb (n:=n) (vs:=e9.vs) (k:=k) fun _=>h);obtain ⟨g,off,hga⟩:=ValsAt.some (a:=e9.addr) (Own.immOf (φ:=fun w=>ValsAt w e9.addr (e9.vs.flatMap verC)) hO pk_) g0;rw [hga] at hO ⊢;have c0:w2.cell? ⟨g,off+(k+1)*3,none⟩=some (.int .i64 (e9.vs[k+1]).n):=ValsAt.get (Own.immOf (φ:=fun w=>ValsAt w (some ⟨g,off,none⟩) (e9.vs.flatMap verC)) hO pk_) g0;have HGA:=Lib.hid hga;clear hga g0;generalize e9.vs[k+1]=y at *;(replace hf:=fa_ hO);by_cases hy:(y.n:Int)≤n
     ·go_wp2_with (refine sq_ ?_;clear hO;(try clear hf);intro w9 hO hf);refine ⟨⟨k+1,by go_num,.inl hlt,Lib.hid (by rw [←HG.out hy];exact HK.out),?_⟩,by simp [intOf];omega⟩;(try simp only [CA]);exact hO.cut sb_
     ·have HX:=Lib.hid ((HS.out hy).symm.trans HK.out);clear HS HG;have hkl:k<e9.vs.length:=by omega
      go_upto_region 7 with ((refine sq_ ?_;clear hO;(try clear hf);intro w9 hO hf))
      have hd:=List.drop_eq_getElem_cons hkl;have HV1:=Lib.hid (show zAc n e9.vs=cutV n (e9.vs[k]::e9.vs.drop (k+1)) by unfold zAc;rw [←HX.out,hd]);have HRL:=Lib.hid (show (e9.vs.drop (k+1)).length+(k+1)=e9.vs.length by rw [List.length_drop];omega);have hO:=(hO.pick (r:=.imm fun w=>ValsAt w (some ⟨g,off,none⟩) (e9.vs.flatMap verC)) pk_).imp (ψ:=fun w=>ValsAt w (some ⟨g,off+k*3,none⟩) ((e9.vs[k]::e9.vs.drop (k+1)).flatMap verC)) (fun w h=>by rw [←hd,zGT verC 3 (fun _=>rfl)];exact zE1 _ h);clear HX hd;generalize e9.vs.drop (k+1)=R at *;generalize e9.vs[k]=x at *;obtain ⟨xn,xv,xg⟩:=x;have c0:w2.cell? ⟨g,off+k*3,none⟩=some (.int .i64 xn):=ValsAt.get (i:=0) (Own.immOf (φ:=fun w=>ValsAt w (some ⟨g,off+k*3,none⟩) ((⟨xn,xv,xg⟩::R).flatMap verC)) hO pk_) rfl;have c2:w2.cell? ⟨g,off+k*3+2,none⟩=some (.bool xg):=ValsAt.get (i:=2) (Own.immOf (φ:=fun w=>ValsAt w (some ⟨g,off+k*3,none⟩) ((⟨xn,xv,xg⟩::R).flatMap verC)) hO pk_) rfl;(replace hf:=fa_ hO);rw [show e9.vs.length-k=R.length+1 from by have:=HRL.out;omega];cases xg with
      | true=>
       by_cases hxn:(xn:Int)≤n
       ·have HV2:=Lib.hid (show zAc n e9.vs=R from by rw [HV1.out,cutV,if_pos ⟨rfl,hxn⟩]);cases R with
        | nil=>
         go_wp2_with (first|((with_reducible show wpList _ _ _ (Oper.mk _ (.call { callee:=.builtin .delete,args:=_,argTypes:=_ }) _ _ _ _::_) _ _);(refine zD8 hO pk_ rfl _ _ rfl Tryz.underlying234 Tryz.underlying9 rfl rfl ?_;clear hO;intro w9 hO;(replace hf:=fa_ hO)))|(refine sq_ ?_;clear hO;(try clear hf);intro w9 hO hf));all_goals
          rw [zHA (e:=e9) rfl hA] at hO;have e3:=zAr hO pk_;rw [e3];refine ⟨⟨seen++[(VE.en e9).born],A++B,Lib.hid (HV.out.step (e:=e9) (B:=B) (R:=B) (fun l hl=>.drop (List.mem_append_right _ (List.mem_singleton_self _)) HV2.out hl) hn9 rfl hok.borns),Lib.hid (fun e he=>HLN.out e (by rcases List.mem_append.1 he with h | h<;>simp [h])),?_⟩,zBy hbL hn9⟩;(try simp only [CA]);exact hO.cut sb_
        | cons y R=>
         by_cases hbad:e9.vs.length≤k+1
         ·exfalso;have:=HRL.out;rw [List.length_cons] at this;omega
         have hO:=(hO.pick (r:=.imm fun w=>ValsAt w (some ⟨g,off+k*3,none⟩) ((⟨xn,xv,true⟩::y::R).flatMap verC)) pk_).imp (ψ:=fun w=>ValsAt w (some ⟨g,off+k*3+3,none⟩) ((y::R).flatMap verC)) (fun w h=>zE1 3 h);(replace hf:=fa_ hO);go_wp2_with (refine sq_ ?_;clear hO hf;intro w9 hO hf);all_goals
          have HC:=zCl g (off+k*3+3) (e9.cap-k-1) (y::R) (by have:=HRL.out;(try simp only [List.length_cons] at this ⊢);omega);rw [List.length_cons] at HC;(refine zAW (fun w8=>Own _ _ w8 (Var p [.map (some b),.int .i64 nn] 236::L0)) (fun _ _ h hx=>h.ext hx) (hO.cut sb_) ((0,0)::(0,1)::(0,2)::(2,3)::(0,4)::(0,5)::(5,6)::(5,7)::[]) (by kernel_rfl) (by kernel_rfl) rfl (fun _ _ d _ _ h=>by cases d<;>exact h) ?_;intro w9 hx9;replace hO:=hO.ext hx9;clear hx9;(replace hf:=fa_ hO);(refine si_ ?_));(refine zAE rfl ?_;intro K8 hK8;(repeat (first | go_skip | go_guarded | go_step));(go_at_call 154;(with_reducible apply Does.use hO (HC);exact tk_;refine du_ ?_;clear hO hf;intro x9 w9 hO hf;(obtain ⟨ka9,kc9⟩:=x9;dsimp only at hO ⊢)));(repeat go_step);refine hK8 _ _ (hO.cut sb_) ?_;clear hK8 K8);(refine zAE rfl ?_;intro K8 hK8;(repeat (first | go_skip | go_guarded));refine zB3 hO pk_ rfl _ _ _ rfl Tryz.underlying234 Tryz.underlying9 rfl rfl (.slice ka9 (R.length+1) kc9) rfl HIN.out ?_;clear hO;intro w9 hO;(replace hf:=fa_ hO);go_step;refine hK8 _ _ (hO.cut sb_) ?_;clear hK8 K8);refine zAA ?_;go_wp2_with (refine sq_ ?_;clear hO hf;intro w9 hO hf);rw [show setE e9.key (.slice ka9 (R.length+1) kc9) ((A++e9::B).map VE.en)=(A++(⟨e9.key,e9.born,ka9,kc9,y::R⟩:VE)::B).map VE.en from zDW (e:=e9) (e':=⟨e9.key,e9.born,ka9,kc9,y::R⟩) rfl rfl rfl hA] at hO;have e3:=zAr hO pk_;rw [e3];refine And.intro ?_ (zBy hbL hn9);(repeat apply Exists.intro);refine And.intro ?_ rfl;refine ⟨seen++[(VE.en e9).born],A++⟨e9.key,e9.born,ka9,kc9,y::R⟩::B,Lib.hid (HV.out.step (e:=e9) (B:=B) (R:=⟨e9.key,e9.born,ka9,kc9,y::R⟩::B) (fun l hl=>.turn (List.mem_append_right _ (List.mem_singleton_self _)) rfl rfl HV2.out.symm (by rw [HV2.out];exact List.cons_ne_nil _ _) hl) hn9 rfl hok.borns),Lib.hid (fun e he=>by
           rcases List.mem_append.1 he with h | h
           ·exact HLN.out e (by simp [h])
           ·rcases List.mem_cons.1 h with rfl | h
            ·have:=HRL.out;show R.length+1≤100000;(try simp only [List.length_cons] at this ⊢);omega
            ·exact HLN.out e (by simp [h])),?_⟩
          have h8:=(hO.pick (r:=Rows (A++B)) pk_).pick (r:=Row2 239 3 ka9 (R.length+1) kc9 ((y::R).flatMap verC)) pk_;have hO:=Own.inRow (L:=A++(⟨e9.key,e9.born,ka9,kc9,y::R⟩:VE)::B) (L':=A++B) (e:=⟨e9.key,e9.born,ka9,kc9,y::R⟩) h8 List.perm_middle;(try simp only [CA]);exact hO.cut sb_
       ·have HV2:=Lib.hid (show zAc n e9.vs=⟨xn,xv,true⟩::R from by rw [HV1.out,cutV,if_neg (fun h=>hxn h.2)]);go_wp2_with (refine sq_ ?_;clear hO;(try clear hf);intro w9 hO hf);have HC:=zCl g (off+k*3) (e9.cap-k) (⟨xn,xv,true⟩::R) (by have:=HRL.out;(try simp only [List.length_cons] at this ⊢);omega);rw [List.length_cons] at HC;(refine zAW (fun w8=>Own _ _ w8 (Var p [.map (some b),.int .i64 nn] 236::L0)) (fun _ _ h hx=>h.ext hx) (hO.cut sb_) ((0,0)::(0,1)::(0,2)::(2,3)::(0,4)::(0,5)::(5,6)::(5,7)::[]) (by kernel_rfl) (by kernel_rfl) rfl (fun _ _ d _ _ h=>by cases d<;>exact h) ?_;intro w9 hx9;replace hO:=hO.ext hx9;clear hx9;(replace hf:=fa_ hO);(refine si_ ?_));(refine zAE rfl ?_;intro K8 hK8;(repeat (first | go_skip | go_guarded | go_step));(go_at_call 154;(with_reducible apply Does.use hO (HC);exact tk_;refine du_ ?_;clear hO hf;intro x9 w9 hO hf;(obtain ⟨ka9,kc9⟩:=x9;dsimp only at hO ⊢)));(repeat go_step);refine hK8 _ _ (hO.cut sb_) ?_;clear hK8 K8);(refine zAE rfl ?_;intro K8 hK8;(repeat (first | go_skip | go_guarded));refine zB3 hO pk_ rfl _ _ _ rfl Tryz.underlying234 Tryz.underlying9 rfl rfl (.slice ka9 (R.length+1) kc9) rfl HIN.out ?_;clear hO;intro w9 hO;(replace hf:=fa_ hO);go_step;refine hK8 _ _ (hO.cut sb_) ?_;clear hK8 K8);refine zAA ?_;go_wp2_with (refine sq_ ?_;clear hO hf;intro w9 hO hf);rw [show setE e9.key (.slice ka9 (R.length+1) kc9) ((A++e9::B).map VE.en)=(A++(⟨e9.key,e9.born,ka9,kc9,⟨xn,xv,true⟩::R⟩:VE)::B).map VE.en from zDW (e:=e9) (e':=⟨e9.key,e9.born,ka9,kc9,⟨xn,xv,true⟩::R⟩) rfl rfl rfl hA] at hO;have e3:=zAr hO pk_;rw [e3];refine And.intro ?_ (zBy hbL hn9);(repeat apply Exists.intro);refine And.intro ?_ rfl;refine ⟨seen++[(VE.en e9).born],A++⟨e9.key,e9.born,ka9,kc9,⟨xn,xv,true⟩::R⟩::B,Lib.hid (HV.out.step (e:=e9) (B:=B) (R:=⟨e9.key,e9.born,ka9,kc9,⟨xn,xv,true⟩::R⟩::B) (fun l hl=>.turn (List.mem_append_right _ (List.mem_singleton_self _)) rfl rfl HV2.out.symm (by rw [HV2.out];exact List.cons_ne_nil _ _) hl) hn9 rfl hok.borns),Lib.hid (fun e he=>by
         rcases List.mem_append.1 he with h | h
         ·exact HLN.out e (by simp [h])
         ·rcases List.mem_cons.1 h with rfl | h
          ·have:=HRL.out;show R.length+1≤100000;(try simp only [List.length_cons] at this ⊢);omega
          ·exact HLN.out e (by simp [h])),?_⟩
        have h8:=(hO.pick (r:=Rows (A++B)) pk_).pick (r:=Row2 239 3 ka9 (R.length+1) kc9 ((⟨xn,xv,true⟩::R).flatMap verC)) pk_;have hO:=Own.inRow (L:=A++(⟨e9.key,e9.born,ka9,kc9,⟨xn,xv,true⟩::R⟩:VE)::B) (L':=A++B) (e:=⟨e9.key,e9.born,ka9,kc9,⟨xn,xv,true⟩::R⟩) h8 List.perm_middle;(try simp only [CA]);exact hO.cut sb_
      | false=>
       have HV2:=Lib.hid (show zAc n e9.vs=⟨xn,xv,false⟩::R from by rw [HV1.out,cutV,if_neg (fun h=>by cases h.1)]);go_wp2_with (refine sq_ ?_;clear hO;(try clear hf);intro w9 hO hf);have HC:=zCl g (off+k*3) (e9.cap-k) (⟨xn,xv,false⟩::R) (by have:=HRL.out;(try simp only [List.length_cons] at this ⊢);omega);rw [List.length_cons] at HC;(refine zAW (fun w8=>Own _ _ w8 (Var p [.map (some b),.int .i64 nn] 236::L0)) (fun _ _ h hx=>h.ext hx) (hO.cut sb_) ((0,0)::(0,1)::(0,2)::(2,3)::(0,4)::(0,5)::(5,6)::(5,7)::[]) (by kernel_rfl) (by kernel_rfl) rfl (fun _ _ d _ _ h=>by cases d<;>exact h) ?_;intro w9 hx9;replace hO:=hO.ext hx9;clear hx9;(replace hf:=fa_ hO);(refine si_ ?_));(refine zAE rfl ?_;intro K8 hK8;(repeat (first | go_skip | go_guarded | go_step));(go_at_call 154;(with_reducible apply Does.use hO (HC);exact tk_;refine du_ ?_;clear hO hf;intro x9 w9 hO hf;(obtain ⟨ka9,kc9⟩:=x9;dsimp only at hO ⊢)));(repeat go_step);refine hK8 _ _ (hO.cut sb_) ?_;clear hK8 K8);(refine zAE rfl ?_;intro K8 hK8;(repeat (first | go_skip | go_guarded));refine zB3 hO pk_ rfl _ _ _ rfl Tryz.underlying234 Tryz.underlying9 rfl rfl (.slice ka9 (R.length+1) kc9) rfl HIN.out ?_;clear hO;intro w9 hO;(replace hf:=fa_ hO);go_step;refine hK8 _ _ (hO.cut sb_) ?_;clear hK8 K8);refine zAA ?_;go_wp2_with (refine sq_ ?_;clear hO hf;intro w9 hO hf);rw [show setE e9.key (.slice ka9 (R.length+1) kc9) ((A++e9::B).map VE.en)=(A++(⟨e9.key,e9.born,ka9,kc9,⟨xn,xv,false⟩::R⟩:VE)::B).map VE.en from zDW (e:=e9) (e':=⟨e9.key,e9.born,ka9,kc9,⟨xn,xv,false⟩::R⟩) rfl rfl rfl hA] at hO;have e3:=zAr hO pk_;rw [e3];refine And.intro ?_ (zBy hbL hn9);(repeat apply Exists.intro);refine And.intro ?_ rfl;refine ⟨seen++[(VE.en e9).born],A++⟨e9.key,e9.born,ka9,kc9,⟨xn,xv,false⟩::R⟩::B,Lib.hid (HV.out.step (e:=e9) (B:=B) (R:=⟨e9.key,e9.born,ka9,kc9,⟨xn,xv,false⟩::R⟩::B) (fun l hl=>.turn (List.mem_append_right _ (List.mem_singleton_self _)) rfl rfl HV2.out.symm (by rw [HV2.out];exact List.cons_ne_nil _ _) hl) hn9 rfl hok.borns),Lib.hid (fun e he=>by
        rcases List.mem_append.1 he with h | h
        ·exact HLN.out e (by simp [h])
        ·rcases List.mem_cons.1 h with rfl | h
         ·have:=HRL.out;show R.length+1≤100000;(try simp only [List.length_cons] at this ⊢);omega
         ·exact HLN.out e (by simp [h])),?_⟩
       have h8:=(hO.pick (r:=Rows (A++B)) pk_).pick (r:=Row2 239 3 ka9 (R.length+1) kc9 ((⟨xn,xv,false⟩::R).flatMap verC)) pk_;have hO:=Own.inRow (L:=A++(⟨e9.key,e9.born,ka9,kc9,⟨xn,xv,false⟩::R⟩:VE)::B) (L':=A++B) (e:=⟨e9.key,e9.born,ka9,kc9,⟨xn,xv,false⟩::R⟩) h8 List.perm_middle;(try simp only [CA]);exact hO.cut sb_
    ·by_cases hkl:k<e9.vs.length
     ·have g0:=zAj verC 3 (fun _=>rfl) e9.vs k hkl 0 (by omega);have HX:=Lib.hid ((zKb (n:=n) (vs:=e9.vs) (k:=k) fun h=>absurd h hlt).symm.trans HK.out);obtain ⟨g,off,hga⟩:=ValsAt.some (a:=e9.addr) (Own.immOf (φ:=fun w=>ValsAt w e9.addr (e9.vs.flatMap verC)) hO pk_) g0;rw [hga] at hO ⊢;have HGA:=Lib.hid hga;clear hga g0;(replace hf:=fa_ hO);go_upto_region 7 with ((refine sq_ ?_;clear hO hf;intro w9 hO hf))
      have hd:=List.drop_eq_getElem_cons hkl;have HV1:=Lib.hid (show zAc n e9.vs=cutV n (e9.vs[k]::e9.vs.drop (k+1)) by unfold zAc;rw [←HX.out,hd]);have HRL:=Lib.hid (show (e9.vs.drop (k+1)).length+(k+1)=e9.vs.length by rw [List.length_drop];omega);have hO:=(hO.pick (r:=.imm fun w=>ValsAt w (some ⟨g,off,none⟩) (e9.vs.flatMap verC)) pk_).imp (ψ:=fun w=>ValsAt w (some ⟨g,off+k*3,none⟩) ((e9.vs[k]::e9.vs.drop (k+1)).flatMap verC)) (fun w h=>by rw [←hd,zGT verC 3 (fun _=>rfl)];exact zE1 _ h);clear HX hd;generalize e9.vs.drop (k+1)=R at *;generalize e9.vs[k]=x at *;obtain ⟨xn,xv,xg⟩:=x;have c0:w2.cell? ⟨g,off+k*3,none⟩=some (.int .i64 xn):=ValsAt.get (i:=0) (Own.immOf (φ:=fun w=>ValsAt w (some ⟨g,off+k*3,none⟩) ((⟨xn,xv,xg⟩::R).flatMap verC)) hO pk_) rfl;have c2:w2.cell? ⟨g,off+k*3+2,none⟩=some (.bool xg):=ValsAt.get (i:=2) (Own.immOf (φ:=fun w=>ValsAt w (some ⟨g,off+k*3,none⟩) ((⟨xn,xv,xg⟩::R).flatMap verC)) hO pk_) rfl;(replace hf:=fa_ hO);rw [show e9.vs.length-k=R.length+1 from by have:=HRL.out;omega];cases xg with
      | true=>
       by_cases hxn:(xn:Int)≤n
       ·have HV2:=Lib.hid (show zAc n e9.vs=R from by rw [HV1.out,cutV,if_pos ⟨rfl,hxn⟩]);cases R with
        | nil=>
         go_wp2_with (first|((with_reducible show wpList _ _ _ (Oper.mk _ (.call { callee:=.builtin .delete,args:=_,argTypes:=_ }) _ _ _ _::_) _ _);(refine zD8 hO pk_ rfl _ _ rfl Tryz.underlying234 Tryz.underlying9 rfl rfl ?_;clear hO;intro w9 hO;(replace hf:=fa_ hO)))|(refine sq_ ?_;clear hO;(try clear hf);intro w9 hO hf));all_goals
          rw [zHA (e:=e9) rfl hA] at hO;have e3:=zAr hO pk_;rw [e3];refine ⟨⟨seen++[(VE.en e9).born],A++B,Lib.hid (HV.out.step (e:=e9) (B:=B) (R:=B) (fun l hl=>.drop (List.mem_append_right _ (List.mem_singleton_self _)) HV2.out hl) hn9 rfl hok.borns),Lib.hid (fun e he=>HLN.out e (by rcases List.mem_append.1 he with h | h<;>simp [h])),?_⟩,zBy hbL hn9⟩;(try simp only [CA]);exact hO.cut sb_
        | cons y R=>
         by_cases hbad:e9.vs.length≤k+1
         ·exfalso;have:=HRL.out;rw [List.length_cons] at this;omega
         have hO:=(hO.pick (r:=.imm fun w=>ValsAt w (some ⟨g,off+k*3,none⟩) ((⟨xn,xv,true⟩::y::R).flatMap verC)) pk_).imp (ψ:=fun w=>ValsAt w (some ⟨g,off+k*3+3,none⟩) ((y::R).flatMap verC)) (fun w h=>zE1 3 h);(replace hf:=fa_ hO);go_wp2_with (refine sq_ ?_;clear hO hf;intro w9 hO hf);all_goals
          have HC:=zCl g (off+k*3+3) (e9.cap-k-1) (y::R) (by have:=HRL.out;(try simp only [List.length_cons] at this ⊢);omega);rw [List.length_cons] at HC;(refine zAW (fun w8=>Own _ _ w8 (Var p [.map (some b),.int .i64 nn] 236::L0)) (fun _ _ h hx=>h.ext hx) (hO.cut sb_) ((0,0)::(0,1)::(0,2)::(2,3)::(0,4)::(0,5)::(5,6)::(5,7)::[]) (by kernel_rfl) (by kernel_rfl) rfl (fun _ _ d _ _ h=>by cases d<;>exact h) ?_;intro w9 hx9;replace hO:=hO.ext hx9;clear hx9;(replace hf:=fa_ hO);(refine si_ ?_));(refine zAE rfl ?_;intro K8 hK8;(repeat (first | go_skip | go_guarded | go_step));(go_at_call 154;(with_reducible apply Does.use hO (HC);exact tk_;refine du_ ?_;clear hO hf;intro x9 w9 hO hf;(obtain ⟨ka9,kc9⟩:=x9;dsimp only at hO ⊢)));(repeat go_step);refine hK8 _ _ (hO.cut sb_) ?_;clear hK8 K8);(refine zAE rfl ?_;intro K8 hK8;(repeat (first | go_skip | go_guarded));refine zB3 hO pk_ rfl _ _ _ rfl Tryz.underlying234 Tryz.underlying9 rfl rfl (.slice ka9 (R.length+1) kc9) rfl HIN.out ?_;clear hO;intro w9 hO;(replace hf:=fa_ hO);go_step;refine hK8 _ _ (hO.cut sb_) ?_;clear hK8 K8);refine zAA ?_;go_wp2_with (refine sq_ ?_;clear hO hf;intro w9 hO hf);rw [show setE e9.key (.slice ka9 (R.length+1) kc9) ((A++e9::B).map VE.en)=(A++(⟨e9.key,e9.born,ka9,kc9,y::R⟩:VE)::B).map VE.en from zDW (e:=e9) (e':=⟨e9.key,e9.born,ka9,kc9,y::R⟩) rfl rfl rfl hA] at hO;have e3:=zAr hO pk_;rw [e3];refine And.intro ?_ (zBy hbL hn9);(repeat apply Exists.intro);refine And.intro ?_ rfl;refine ⟨seen++[(VE.en e9).born],A++⟨e9.key,e9.born,ka9,kc9,y::R⟩::B,Lib.hid (HV.out.step (e:=e9) (B:=B) (R:=⟨e9.key,e9.born,ka9,kc9,y::R⟩::B) (fun l hl=>.turn (List.mem_append_right _ (List.mem_singleton_self _)) rfl rfl HV2.out.symm (by rw [HV2.out];exact List.cons_ne_nil _ _) hl) hn9 rfl hok.borns),Lib.hid (fun e he=>by
           rcases List.mem_append.1 he with h | h
           ·exact HLN.out e (by simp [h])
           ·rcases List.mem_cons.1 h with rfl | h
            ·have:=HRL.out;show R.length+1≤100000;(try simp only [List.length_cons] at this ⊢);omega
            ·exact HLN.out e (by simp [h])),?_⟩
          have h8:=(hO.pick (r:=Rows (A++B)) pk_).pick (r:=Row2 239 3 ka9 (R.length+1) kc9 ((y::R).flatMap verC)) pk_;have hO:=Own.inRow (L:=A++(⟨e9.key,e9.born,ka9,kc9,y::R⟩:VE)::B) (L':=A++B) (e:=⟨e9.key,e9.born,ka9,kc9,y::R⟩) h8 List.perm_middle;(try simp only [CA]);exact hO.cut sb_
       ·have HV2:=Lib.hid (show zAc n e9.vs=⟨xn,xv,true⟩::R from by rw [HV1.out,cutV,if_neg (fun h=>hxn h.2)]);go_wp2_with (refine sq_ ?_;clear hO;(try clear hf);intro w9 hO hf);have HC:=zCl g (off+k*3) (e9.cap-k) (⟨xn,xv,true⟩::R) (by have:=HRL.out;(try simp only [List.length_cons] at this ⊢);omega);rw [List.length_cons] at HC;(refine zAW (fun w8=>Own _ _ w8 (Var p [.map (some b),.int .i64 nn] 236::L0)) (fun _ _ h hx=>h.ext hx) (hO.cut sb_) ((0,0)::(0,1)::(0,2)::(2,3)::(0,4)::(0,5)::(5,6)::(5,7)::[]) (by kernel_rfl) (by kernel_rfl) rfl (fun _ _ d _ _ h=>by cases d<;>exact h) ?_;intro w9 hx9;replace hO:=hO.ext hx9;clear hx9;(replace hf:=fa_ hO);(refine si_ ?_));(refine zAE rfl ?_;intro K8 hK8;(repeat (first | go_skip | go_guarded | go_step));(go_at_call 154;(with_reducible apply Does.use hO (HC);exact tk_;refine du_ ?_;clear hO hf;intro x9 w9 hO hf;(obtain ⟨ka9,kc9⟩:=x9;dsimp only at hO ⊢)));(repeat go_step);refine hK8 _ _ (hO.cut sb_) ?_;clear hK8 K8);(refine zAE rfl ?_;intro K8 hK8;(repeat (first | go_skip | go_guarded));refine zB3 hO pk_ rfl _ _ _ rfl Tryz.underlying234 Tryz.underlying9 rfl rfl (.slice ka9 (R.length+1) kc9) rfl HIN.out ?_;clear hO;intro w9 hO;(replace hf:=fa_ hO);go_step;refine hK8 _ _ (hO.cut sb_) ?_;clear hK8 K8);refine zAA ?_;go_wp2_with (refine sq_ ?_;clear hO hf;intro w9 hO hf);rw [show setE e9.key (.slice ka9 (R.length+1) kc9) ((A++e9::B).map VE.en)=(A++(⟨e9.key,e9.born,ka9,kc9,⟨xn,xv,true⟩::R⟩:VE)::B).map VE.en from zDW (e:=e9) (e':=⟨e9.key,e9.born,ka9,kc9,⟨xn,xv,true⟩::R⟩) rfl rfl rfl hA] at hO;have e3:=zAr hO pk_;rw [e3];refine And.intro ?_ (zBy hbL hn9);(repeat apply Exists.intro);refine And.intro ?_ rfl;refine ⟨seen++[(VE.en e9).born],A++⟨e9.key,e9.born,ka9,kc9,⟨xn,xv,true⟩::R⟩::B,Lib.hid (HV.out.step (e:=e9) (B:=B) (R:=⟨e9.key,e9.born,ka9,kc9,⟨xn,xv,true⟩::R⟩::B) (fun l hl=>.turn (List.mem_append_right _ (List.mem_singleton_self _)) rfl rfl HV2.out.symm (by rw [HV2.out];exact List.cons_ne_nil _ _) hl) hn9 rfl hok.borns),Lib.hid (fun e he=>by
         rcases List.mem_append.1 he with h | h
         ·exact HLN.out e (by simp [h])
         ·rcases List.mem_cons.1 h with rfl | h
          ·have:=HRL.out;show R.length+1≤100000;(try simp only [List.length_cons] at this ⊢);omega
          ·exact HLN.out e (by simp [h])),?_⟩
        have h8:=(hO.pick (r:=Rows (A++B)) pk_).pick (r:=Row2 239 3 ka9 (R.length+1) kc9 ((⟨xn,xv,true⟩::R).flatMap verC)) pk_;have hO:=Own.inRow (L:=A++(⟨e9.key,e9.born,ka9,kc9,⟨xn,xv,true⟩::R⟩:VE)::B) (L':=A++B) (e:=⟨e9.key,e9.born,ka9,kc9,⟨xn,xv,true⟩::R⟩) h8 List.perm_middle;(try simp only [CA]);exact hO.cut sb_
      | false=>
       have HV2:=Lib.hid (show zAc n e9.vs=⟨xn,xv,false⟩::R from by rw [HV1.out,cutV,if_neg (fun h=>by cases h.1)]);go_wp2_with (refine sq_ ?_;clear hO;(try clear hf);intro w9 hO hf);have HC:=zCl g (off+k*3) (e9.cap-k) (⟨xn,xv,false⟩::R) (by have:=HRL.out;(try simp only [List.length_cons] at this ⊢);omega);rw [List.length_cons] at HC;(refine zAW (fun w8=>Own _ _ w8 (Var p [.map (some b),.int .i64 nn] 236::L0)) (fun _ _ h hx=>h.ext hx) (hO.cut sb_) ((0,0)::(0,1)::(0,2)::(2,3)::(0,4)::(0,5)::(5,6)::(5,7)::[]) (by kernel_rfl) (by kernel_rfl) rfl (fun _ _ d _ _ h=>by cases d<;>exact h) ?_;intro w9 hx9;replace hO:=hO.ext hx9;clear hx9;(replace hf:=fa_ hO);(refine si_ ?_));(refine zAE rfl ?_;intro K8 hK8;(repeat (first | go_skip | go_guarded | go_step));(go_at_call 154;(with_reducible apply Does.use hO (HC);exact tk_;refine du_ ?_;clear hO hf;intro x9 w9 hO hf;(obtain ⟨ka9,kc9⟩:=x9;dsimp only at hO ⊢)));(repeat go_step);refine hK8 _ _ (hO.cut sb_) ?_;clear hK8 K8);(refine zAE rfl ?_;intro K8 hK8;(repeat (first | go_skip | go_guarded));refine zB3 hO pk_ rfl _ _ _ rfl Tryz.underlying234 Tryz.underlying9 rfl rfl (.slice ka9 (R.length+1) kc9) rfl HIN.out ?_;clear hO;intro w9 hO;(replace hf:=fa_ hO);go_step;refine hK8 _ _ (hO.cut sb_) ?_;clear hK8 K8);refine zAA ?_;go_wp2_with (refine sq_ ?_;clear hO hf;intro w9 hO hf);rw [show setE e9.key (.slice ka9 (R.length+1) kc9) ((A++e9::B).map VE.en)=(A++(⟨e9.key,e9.born,ka9,kc9,⟨xn,xv,false⟩::R⟩:VE)::B).map VE.en from zDW (e:=e9) (e':=⟨e9.key,e9.born,ka9,kc9,⟨xn,xv,false⟩::R⟩) rfl rfl rfl hA] at hO;have e3:=zAr hO pk_;rw [e3];refine And.intro ?_ (zBy hbL hn9);(repeat apply Exists.intro);refine And.intro ?_ rfl;refine ⟨seen++[(VE.en e9).born],A++⟨e9.key,e9.born,ka9,kc9,⟨xn,xv,false⟩::R⟩::B,Lib.hid (HV.out.step (e:=e9) (B:=B) (R:=⟨e9.key,e9.born,ka9,kc9,⟨xn,xv,false⟩::R⟩::B) (fun l hl=>.turn (List.mem_append_right _ (List.mem_singleton_self _)) rfl rfl HV2.out.symm (by rw [HV2.out];exact List.cons_ne_nil _ _) hl) hn9 rfl hok.borns),Lib.hid (fun e he=>by
        rcases List.mem_append.1 he with h | h
        ·exact HLN.out e (by simp [h])
        ·rcases List.mem_cons.1 h with rfl | h
         ·have:=HRL.out;show R.length+1≤100000;(try simp only [List.length_cons] at this ⊢);omega
         ·exact HLN.out e (by simp [h])),?_⟩
       have h8:=(hO.pick (r:=Rows (A++B)) pk_).pick (r:=Row2 239 3 ka9 (R.length+1) kc9 ((⟨xn,xv,false⟩::R).flatMap verC)) pk_;have hO:=Own.inRow (L:=A++(⟨e9.key,e9.born,ka9,kc9,⟨xn,xv,false⟩::R⟩:VE)::B) (L':=A++B) (e:=⟨e9.key,e9.born,ka9,kc9,⟨xn,xv,false⟩::R⟩) h8 List.perm_middle;(try simp only [CA]);exact hO.cut sb_
     ·have hvs:e9.vs=[]:=List.length_eq_zero_iff.1 (by omega);have HV2:=Lib.hid (show zAc n e9.vs=[] from by rw [hvs];rfl);have h0:e9.vs.length=0:=by rw [hvs];rfl
      obtain rfl:k=0:=by omega
      rw [h0];go_wp2_with (first|((with_reducible show wpList _ _ _ (Oper.mk _ (.call { callee:=.builtin .delete,args:=_,argTypes:=_ }) _ _ _ _::_) _ _);(refine zD8 hO pk_ rfl _ _ rfl Tryz.underlying234 Tryz.underlying9 rfl rfl ?_;clear hO;intro w9 hO;(replace hf:=fa_ hO)))|(refine sq_ ?_;clear hO;(try clear hf);intro w9 hO hf));all_goals
       rw [zHA (e:=e9) rfl hA] at hO;have e3:=zAr hO pk_;rw [e3];refine ⟨⟨seen++[(VE.en e9).born],A++B,Lib.hid (HV.out.step (e:=e9) (B:=B) (R:=B) (fun l hl=>.drop (List.mem_append_right _ (List.mem_singleton_self _)) HV2.out hl) hn9 rfl hok.borns),Lib.hid (fun e he=>HLN.out e (by rcases List.mem_append.1 he with h | h<;>simp [h])),?_⟩,zBy hbL hn9⟩;(try simp only [CA]);exact hO.cut sb_
