/- Texts SlC of this claim, laid together. -/
import Derived.Test.YtagcmjmcjpjihaaGreatDoorHC4
import Derived.Test.YtagcmjmcjpjihaaGreatDoorHC9
import Derived.Test.YtagcmjmcjpjihaaGreatDoorHC8
import Derived.Deep.Cut
set_option linter.unusedVariables false
set_option linter.unusedSimpArgs false
set_option maxHeartbeats 8000000
set_option maxRecDepth 100000
namespace Go.Proofs.YtagcmjmcjpjihaaGreatDoor
open Go.RowKit
theorem Tryz.infoCh:(Tryz.prog.info? 142).map (fun i=>(i.zero,i.size,i.bytes))=some (some (.agg #[.string ⟨#[]⟩,.string ⟨#[]⟩,.bool false]),3,40):=by kernel_rfl
theorem zFK {P:Program} (w:World) (d:Nat) (t e:TypeId) (a:Option Addr) (l c:Nat) (h:P.underlying t=some (.slice e)):(Op.equalIn (d+1) t (.slice a l c) (.slice none 0 0)).run P w=.ok a.isNone w:=by
 cases a<;>simp [Op.equalIn,run_underlying h]
theorem zFh {P:Program} (w:World) (t e:TypeId) (a:Option Addr) (l c:Nat) (h:P.underlying t=some (.slice e)):(Op.equal t (.slice a l c) (.slice none 0 0)).run P w=.ok a.isNone w:=zFK w 9999 t e a l c h
@[go_sem] theorem zQB {P:Program} (w:World) (t e:TypeId) (a:Option Addr) (l c:Nat) (h:P.underlying t=some (.slice e)):(binOp .eql t (.slice a l c) (.slice none 0 0)).run P w=.ok (.bool a.isNone) w:=by
 simp [binOp,zFh w t e a l c h]
theorem zER {A Z cs:List Value} (o:Nat) (hA:A.length=o) (h:cs.length≤Z.length):splice (A++Z) o cs=A++cs++Z.drop cs.length:=by
 subst hA;unfold splice;rw [List.take_left,List.drop_append,List.drop_of_length_le (by omega),List.nil_append,show A.length+cs.length-A.length=cs.length from by omega,List.append_assoc]
theorem zNP (a:Option Addr) (n c g vc:Nat) (l:List Ch) (x:Ch) (hl:l.length=n) (hn:n≤1000) (hnc:n≤c) :
 Does Tryz.prog 245 #[.slice a n c,.int .i64 n,.slice (some ⟨g,0,none⟩) 1 vc] [Row2 142 3 a n c (chs l),Var g x.cells 142]
  (fun p:Option Addr×Nat=>(.slice p.1 (n+1) p.2,[Row2 142 3 p.1 (n+1) p.2 (chs (zC6 l n x))])):=by
 obtain ⟨iC,hiC,hzC,hsC,hbC⟩:=info_parts Tryz.infoCh;have hfin:chs (zC6 l n x)=chs l++x.cells:=by rw [←hl];exact zQ5 l x
 rw [hfin];clear hfin;intro S W w L0 hO;simp only [CA] at hO;(replace hf:=fa_ hO);rcases Nat.eq_or_lt_of_le hnc with rfl | hlt
 ·go_enter Tryz.func245,Tryz.ntmps245;go_wp2_with (first|(at_builtin;(refine zAH hO pk_ pk_ rfl (.tmp 23) (.tmp 24) 36 rfl iC _ 40 Tryz.underlying36 hiC hzC hsC hbC rfl (by omega) rfl _ _ rfl (by rfl) (Ch.ones _) (by unfold maxLen;omega) (by omega) ?_;clear hO;intro ka9 kc9 w9 hO;(replace hf:=fa_ hO)))|(refine sq_ ?_;clear hO;(try clear hf);intro w9 hO hf));all_goals (go_ret;refine ⟨(ka9,kc9),rfl,?_⟩;exact hO.give tk_ kp_)
 ·have hne:¬c=n:=by omega
  go_enter Tryz.func245,Tryz.ntmps245;go_wp2_with (first|(at_builtin;(refine zAH hO pk_ pk_ rfl (.tmp 23) (.tmp 24) 36 rfl iC _ 40 Tryz.underlying36 hiC hzC hsC hbC rfl (by omega) rfl _ _ rfl (by rfl) (Ch.ones _) (by unfold maxLen;omega) (by omega) ?_;clear hO;intro ka9 kc9 w9 hO;(replace hf:=fa_ hO)))|(refine sq_ ?_;clear hO;(try clear hf);intro w9 hO hf));all_goals (go_ret;refine ⟨(ka9,kc9),rfl,?_⟩;exact hO.give tk_ kp_)
theorem zLw (g0 n c g vc i:Nat) (l:List Ch) (x:Ch) (hl:l.length=n) (hn:n≤1000) (hi:i<n) (hnc:n≤c) (hc:c≤n) :
 Does Tryz.prog 245 #[.slice (some ⟨g0,0,none⟩) n c,.int .i64 i,.slice (some ⟨g,0,none⟩) 1 vc] [Row2 142 3 (some ⟨g0,0,none⟩) n c (chs l),Var g x.cells 142]
  (fun p:Option Addr×Nat=>(.slice p.1 (n+1) p.2,[Row2 142 3 p.1 (n+1) p.2 (chs (zC6 l i x))])):=by
 obtain rfl:c=n:=by omega
 obtain ⟨iC,hiC,hzC,hsC,hbC⟩:=info_parts Tryz.infoCh;rw [zFI];have hcl:=zCG l;generalize hxs:chs l=xs at *;have hxl:xs.length=c*3:=by omega
 have HO1:=Lib.hid (hxs ▸ zJv l);clear hcl hl;intro S W w L0 hO;simp only [CA] at hO;(replace hf:=fa_ hO);have hci:¬c=i:=by omega
 have hci2:¬(c:Int)=i:=by omega
 have hik:i+(c+1-i)=c+1:=by omega
 have HIK:=Lib.hid hik;clear hik;have hv:Value.int .i64 ((c:Int)+1-i)=.int .i64 ((c+1-i:Nat):Int):=by congr 1;omega
 have HV:=Lib.hid hv;clear hv;have hsrc:∀j u,(xs.take (i*3))[j]?=some u→w.cell? ⟨g0,0+j,none⟩=some u:=fun j u hj=>by
  rw [List.getElem?_take] at hj;split at hj
  ·exact zBb (g:=g0) (off:=0) hf.1.1 j u hj
  ·cases hj
 have HS:=Lib.hid hsrc;clear hsrc;go_enter Tryz.func245,Tryz.ntmps245;go_upto_region 10 with (first|(at_builtin;(refine zDu hO rfl (.tmp 34) (.tmp 39) 36 3 rfl iC _ 3 40 Tryz.underlying36 .i64 Tryz.underlying3 hiC hzC hsC hbC rfl (by omega) g0 i c rfl (xs.take (i*3)) (by rw [List.length_take];omega) HS.out .i64 (c+1-i) HV.out (by omega) (by omega) (by omega) (by omega) ?_;clear hO;intro kg9 kc9 w9 hO;rw [HIK.out] at hO ⊢;have hkl:=hO.rowLen pk_;rw [List.length_append] at hkl;generalize (Builtin.zeroCells _ (c+1-i)).toList=zs at hO hkl;(replace hf:=fa_ hO)))|(refine sq_ ?_;clear hO hf;intro w9 hO hf))
 go_wp2_with (first|((with_reducible show wpList _ _ _ (Oper.mk _ (.call { callee:=.builtin .copy,args:=_,argTypes:=_ }) _ _ _ _::_) _ _);(refine zA9 hO (g:=kg9) (n:=c+1) (xs:=List.take (i*3) xs++zs) pk_ rfl (.tmp 43) (.tmp 44) 36 36 rfl Tryz.underlying36 (by rw [hiC];simp [hsC]) (i*3) (c+1-i) _ ⟨g,0,none⟩ 1 _ rfl rfl x.cells (by rw [show Nat.min 1 (c+1-i)=1 from Nat.min_eq_left (by omega)];rfl) (fun j v hj=>by rw [zBd];exact Var.at (t:=142) (hO.factOf (r:=Var g x.cells 142) pk_) j v hj) (by rw [show x.cells.length=3 from rfl];omega) (Ch.ones x) ?_;clear hO;intro w9 hO;rw [zER (i*3) (by rw [List.length_take];omega) (by rw [List.length_take] at hkl;rw [show x.cells.length=3 from rfl];omega)] at hO;(replace hf:=fa_ hO)))|(refine sq_ ?_;clear hO hf;intro w9 hO hf));(refine rg_ hO ((0,0)::(0,1)::(0,2)::(0,3)::(0,4)::(0,5)::(0,6)::(0,7)::(5,8)::[]) ?_;clear hO;intro w9 hO;replace hf:=fa_ hO;(refine ss_ hO ?_;clear hO hf;intro w9 hO hf));refine zAE rfl ?_;intro K8 hK8;(refine zA9 hO (g:=kg9) (n:=c+1) (xs:=List.take (i*3) xs++x.cells++List.drop x.cells.length zs) pk_ rfl (.tmp 50) (.tmp 53) 36 36 rfl Tryz.underlying36 (by rw [hiC];simp [hsC]) ((i+1)*3) (c-i) _ ⟨g0,i*3,none⟩ (c-i) _ rfl rfl (xs.drop (i*3)) (by rw [List.length_drop,show Nat.min (c-i) (c-i)=c-i from Nat.min_self _];omega) (fun j v hj=>by rw [zBd];rw [List.getElem?_drop] at hj;have:=zBb (g:=g0) (off:=0) (hO.vals (xs:=xs) (e:=142) pk_) _ v hj;rwa [Nat.zero_add] at this) (by rw [List.length_drop];omega) (fun u hu=>HO1.out u (List.mem_of_mem_drop hu)) ?_;clear hO;intro w9 hO;rw [zER ((i+1)*3) (by rw [List.length_append,List.length_take,show x.cells.length=3 from rfl];omega) (by rw [List.length_drop,List.length_drop,show x.cells.length=3 from rfl];rw [List.length_take] at hkl;omega)] at hO;(replace hf:=fa_ hO));go_step;refine hK8 _ _ trivial ?_;clear hK8 K8;refine zAA ?_;go_wp2_with (refine sq_ ?_;clear hO hf;intro w9 hO hf);go_ret;refine ⟨(some ⟨kg9,0,none⟩,kc9),rfl,?_⟩;rw [show List.drop (List.drop (i*3) xs).length (List.drop x.cells.length zs)=[] from List.drop_of_length_le (by rw [List.length_drop,List.length_drop,show x.cells.length=3 from rfl];rw [List.length_take] at hkl;omega),List.append_nil,List.append_assoc] at hO;exact hO.give tk_ kp_
theorem zGG {xs sp cs:List Value} (o:Nat) (h:o≤xs.length) (hs:sp.length=cs.length):splice (splice (xs++sp) (o+cs.length) (xs.drop o)) o cs=xs.take o++(cs++xs.drop o):=by
 have e1:(xs++sp).drop (o+cs.length+(xs.drop o).length)=[]:=List.drop_of_length_le (by rw [List.length_append,List.length_drop];omega);have e2:((xs++sp).take (o+cs.length)).length=o+cs.length:=by rw [List.length_take,List.length_append];omega
 unfold splice;rw [e1,List.append_nil,List.take_append_of_le_length (by omega),List.take_take,Nat.min_eq_left (by omega),List.take_append_of_le_length h];rw [List.drop_append,e2,Nat.sub_self,List.drop_zero,List.drop_of_length_le (by omega),List.nil_append];try rw [List.append_assoc]
theorem zK8 (g0 n c g vc i:Nat) (l:List Ch) (x:Ch) (hl:l.length=n) (hn:n≤1000) (hi:i<n) (hnc:n<c) (hcm:c≤9223372036854775807) :
 Does Tryz.prog 245 #[.slice (some ⟨g0,0,none⟩) n c,.int .i64 i,.slice (some ⟨g,0,none⟩) 1 vc] [Row2 142 3 (some ⟨g0,0,none⟩) n c (chs l),Var g x.cells 142]
  (fun p:Option Addr×Nat=>(.slice p.1 (n+1) p.2,[Row2 142 3 p.1 (n+1) p.2 (chs (zC6 l i x))])):=by
 obtain ⟨iC,hiC,hzC,hsC,hbC⟩:=info_parts Tryz.infoCh;rw [zFI];have hcl:=zCG l;have HO1:=Lib.hid (zJv l);generalize chs l=xs at *;have hxl:xs.length=n*3:=by omega
 clear hcl hl;intro S W w L0 hO;simp only [List.cons_append,List.nil_append] at hO;obtain ⟨sp,hsp,hO9⟩:=hO.rowWiden 1 (by omega);clear hO;have hO:=hO9;clear hO9;(replace hf:=fa_ hO);have hap:=hO.apart (b:=g) (cs:=x.cells) (t:=142) (g:=g0) (n:=n+1) (size:=3) (.there _ (.here _ _)) (.here _ _) (by omega) (by omega);have hni:¬n=i:=by omega
 have hni2:¬(n:Int)=i:=by omega
 have hov:∀lb cb,(callFunc 281 #[.slice (some ⟨g,0,none⟩) 1 vc,.slice (some ⟨g0,(i+1)*3,none⟩) lb cb]).run Tryz.prog w=.ok (.value (.bool false)) w:=fun lb cb=>by
  obtain ⟨h1,h2,⟨k,h3,h4⟩,h5⟩:=hap;rw [run_callFunc_extern Tryz.func281 (by kernel_rfl) (by kernel_rfl) (by kernel_rfl) (e:=Extern.SlicesOverlaps.overlaps #[36,36] #[4]) (by kernel_rfl),
   Lib.run_overlaps_apart w 36 4 142 Tryz.underlying36 3 Tryz.sizeOf142 ⟨g,0,none⟩ ⟨g0,(i+1)*3,none⟩ 1 vc lb cb h1 _ _ _ _ h2 h3 h4 (h5 0) (h5 _)]
  rfl
 clear hap;go_enter Tryz.func245,Tryz.ntmps245;go_upto_region 15 with (first|(simp only [hov])|(refine sq_ ?_;clear hO hf;intro w9 hO hf))
 (refine rg_ hO ((0,0)::(0,1)::(0,2)::(0,3)::(0,4)::(0,5)::(0,6)::(0,7)::(5,8)::[]) ?_;clear hO;intro w9 hO;replace hf:=fa_ hO;(refine ss_ hO ?_;clear hO hf;intro w9 hO hf));refine zAE rfl ?_;intro K8 hK8;(refine zA9 hO (g:=g0) (n:=n+1) (xs:=xs++sp) pk_ rfl (.tmp 73) (.tmp 76) 36 36 rfl Tryz.underlying36 (by rw [hiC];simp [hsC]) ((i+1)*3) (n-i) _ ⟨g0,i*3,none⟩ (n+1-i) _ rfl rfl (xs.drop (i*3)) (by rw [List.length_drop,show Nat.min (n+1-i) (n-i)=n-i from Nat.min_eq_right (by omega)];omega) (fun j v hj=>by rw [zBd];have:=zBb (g:=g0) (off:=0) (hO.vals (xs:=xs++sp) (e:=142) pk_) (i*3+j) v (by rw [List.getElem?_append_left (by have:=(List.getElem?_eq_some_iff.1 hj).1;rw [List.length_drop] at this;omega)];rwa [List.getElem?_drop] at hj);rwa [Nat.zero_add] at this) (by rw [List.length_drop];omega) (fun u hu=>HO1.out u (List.mem_of_mem_drop hu)) ?_;clear hO;intro w9 hO;(replace hf:=fa_ hO));go_step;refine hK8 _ _ trivial ?_;clear hK8 K8;refine zAA ?_;go_upto_region 17 with (first|((with_reducible show wpList _ _ _ (Oper.mk _ (.call { callee:=.builtin .copy,args:=_,argTypes:=_ }) _ _ _ _::_) _ _);(refine zA9 hO (g:=g0) (n:=n+1) pk_ rfl (.tmp 80) (.tmp 81) 36 36 rfl Tryz.underlying36 (by rw [hiC];simp [hsC]) (i*3) (n+1-i) _ ⟨g,0,none⟩ 1 _ rfl rfl x.cells (by rw [show Nat.min 1 (n+1-i)=1 from Nat.min_eq_left (by omega)];rfl) (fun j v hj=>by rw [zBd];exact Var.at (t:=142) (hO.factOf (r:=Var g x.cells 142) pk_) j v hj) (by rw [show x.cells.length=3 from rfl];omega) (Ch.ones x) ?_;clear hO;intro w9 hO;rw [show (i+1)*3=i*3+x.cells.length from by rw [show x.cells.length=3 from rfl];omega,zGG (i*3) (by omega) hsp] at hO;(replace hf:=fa_ hO)))|(refine sq_ ?_;clear hO hf;intro w9 hO hf))
 simp only [Act.put,List.setIfInBounds_toArray,List.set_cons_succ,List.set_cons_zero];go_wp2_with (refine sq_ ?_;clear hO hf;intro w9 hO hf);go_ret;refine ⟨(some ⟨g0,0,none⟩,c),rfl,?_⟩;exact hO.give tk_ kp_
