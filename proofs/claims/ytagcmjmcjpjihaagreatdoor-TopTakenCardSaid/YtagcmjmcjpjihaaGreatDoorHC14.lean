/- Texts Dk, Dk2, Dk3, Dk4 of this claim, laid together. -/
import Derived.Test.YtagcmjmcjpjihaaGreatDoorHC9
import Derived.WalkSpells
set_option linter.unusedVariables false
set_option linter.unusedSimpArgs false
set_option maxHeartbeats 8000000
set_option maxRecDepth 100000
namespace Go.Proofs.YtagcmjmcjpjihaaGreatDoor
open Go.RowKit
structure Dk where
 kept:List ByteArray
 now:List ByteArray
 wait:List (Nat×ByteArray)
 fuse:Int
 down:Bool
def zAn (n:Nat):ByteArray:=⟨Array.replicate n 0⟩
def zAK (s:ByteArray):ByteArray:=s++zAn (96-s.size)
def zGQ (n:Int):Int:=if n-1 < -1 then -1 else n-1
def Dk.step (d:Dk):Nat×Dk:=
 if d.down then (10,d) else if d.fuse=0 then (10,{ d with down:=true,fuse:=-1 }) else (0,{ d with fuse:=zGQ d.fuse })
def Dk.write (d:Dk) (i:Nat) (s:ByteArray):Dk:={ d with now:=d.now.set i (zAK s),wait:=d.wait++[(i,zAK s)] }
def zSX (t:Nat×ByteArray):List Value:=[.int .i64 t.1,.string t.2]
def zTv (tD tT:TypeId) (p:Nat) (d:Dk):Rs:=.ex fun x:(Option Addr×Nat)×(Option Addr×Nat)×(Option Addr×Nat)=>.many [
 Var p [.slice x.1.1 d.kept.length x.1.2,.slice x.2.1.1 d.now.length x.2.1.2,.slice x.2.2.1 d.wait.length x.2.2.2,.int .i64 d.fuse,.bool d.down] tD,
 Row2 9 1 x.1.1 d.kept.length x.1.2 (d.kept.map .string),
 Row2 9 1 x.2.1.1 d.now.length x.2.1.2 (d.now.map .string),
 Row2 tT 2 x.2.2.1 d.wait.length x.2.2.2 (d.wait.flatMap zSX)]
def zAC (p:Nat) (d:Dk):Rs:=zTv 215 218 p d
theorem Tryz.infoU8:(Tryz.prog.info? 5).map (fun i=>(i.zero,i.size,i.bytes))=some (some (.int .u8 0),1,1):=by kernel_rfl
theorem Tryz.infoStr:(Tryz.prog.info? 9).map (fun i=>(i.zero,i.size,i.bytes))=some (some (.string ⟨#[]⟩),1,16):=by kernel_rfl
theorem Tryz.infoTurn:(Tryz.prog.info? 218).map (fun i=>(i.zero,i.size,i.bytes))=some (some (.agg #[.int .i64 0,.string ⟨#[]⟩]),2,24):=by kernel_rfl
theorem zGD (p:Nat) (d:Dk) (hf1:-1≤d.fuse) (hf2:d.fuse≤9223372036854775807):Does Tryz.prog 210 #[.pointer (some ⟨p,0,none⟩)] [zAC p d] (fun _:Unit=>(errV d.step.1,[zAC p d.step.2])):=by
 intro S W w L0 hO;simp only [CA] at hO;obtain ⟨⟨⟨ka,kc⟩,⟨na,nc⟩,⟨wa,wc⟩⟩,hO⟩:=hO.ofEx;replace hO:=hO.unpack;dsimp only at hO;simp only [CA] at hO;(replace hf:=fa_ hO);obtain ⟨kept,now,wait,fuse,down⟩:=d;dsimp only at *;cases down
 ·by_cases hf0:fuse=0
  ·subst hf0;rw [show Dk.step ⟨kept,now,wait,0,false⟩=(10,⟨kept,now,wait,-1,true⟩) from rfl];go_enter Tryz.func210,Tryz.ntmps210;go_wp2_with (refine sq_ ?_;clear hO;(try clear hf);intro w9 hO hf);(go_ret;refine ⟨(),rfl,?_⟩;(try simp only [CA]);(refine Own.toEx ((ka,kc),(na,nc),(wa,wc)) (Own.pack ?_);dsimp only;exact hO.give tk_ kp_))
  ·rw [show Dk.step ⟨kept,now,wait,fuse,false⟩=(0,⟨kept,now,wait,zGQ fuse,false⟩) from by simp [Dk.step,hf0]];go_enter Tryz.func210,Tryz.ntmps210;go_wp2_with (refine sq_ ?_;clear hO;(try clear hf);intro w9 hO hf);all_goals (unfold zGQ;(try simp only [if_pos ‹fuse-1 < -1›] at hO ⊢);(try simp only [if_neg (show ¬fuse-1 < -1 from by omega)] at hO ⊢);(go_ret;refine ⟨(),rfl,?_⟩;(try simp only [CA]);(refine Own.toEx ((ka,kc),(na,nc),(wa,wc)) (Own.pack ?_);dsimp only;exact hO.give tk_ kp_)))
 ·rw [show Dk.step ⟨kept,now,wait,fuse,true⟩=(10,⟨kept,now,wait,fuse,true⟩) from rfl];go_enter Tryz.func210,Tryz.ntmps210;go_wp2_with (refine sq_ ?_;clear hO;(try clear hf);intro w9 hO hf);(go_ret;refine ⟨(),rfl,?_⟩;(try simp only [CA]);(refine Own.toEx ((ka,kc),(na,nc),(wa,wc)) (Own.pack ?_);dsimp only;exact hO.give tk_ kp_))
theorem Tryz.intU8k:Tryz.prog.underlying 5=some (.int .u8):=by kernel_rfl
theorem zPs (n:Nat):List.replicate n (Value.int .u8 0)=(List.replicate n (0:Int)).map (Value.int .u8):=by simp
theorem zL3 (s:ByteArray) (w:World) (hs:s.size≤96):Calls Tryz.prog 141 #[.string s] w fun e w'=>e=.returned (.string (zAK s))∧Ext w w':=by
 obtain ⟨iU,hiU,hzU,hsU,hbU⟩:=info_parts Tryz.infoU8;go_enter Tryz.func141,Tryz.ntmps141;have hO:=Own.start w (fun _=>False);go_wp2_with (first|(at_make;(refine zEu hO rfl (.tmp 6) (.tmp 6) 244 rfl 5 iU _ 1 Tryz.underlying244 hiU hzU hsU .i64 .i64 _ _ (96-s.size) rfl rfl (by omega) (by omega) (by rw [hbU];omega) (by unfold maxLen;omega) ?_;clear hO;intro g9 w9 hO;rw [Nat.mul_one,zF4 rfl] at hO;(replace hf:=fa_ hO)))|((refine zAX hO pk_ rfl (.tmp 7) 244 9 5 rfl Tryz.underlying244 Tryz.intU8k Tryz.underlying9 _ 0 _ _ (List.replicate (96-s.size) 0) rfl (by simp) (by rw [←zPs];exact zBb (hO.vals pk_)) ?_;rw [zNo])));go_ret;exact ⟨rfl,hO.toExt⟩
theorem zIh (p:Nat) (d:Dk):Reads Tryz.prog 62 #[.pointer (some ⟨p,0,none⟩)] [zAC p d] (.bool d.down):=by
 intro w L0 hO;simp only [FZ] at hO;obtain ⟨⟨⟨ka,kc⟩,⟨na,nc⟩,⟨wa,wc⟩⟩,hO⟩:=hO.frzEx;replace hO:=hO.frzMany;dsimp only at hO;simp only [FZ] at hO;(replace hf:=fa_ hO);go_enter Tryz.func62,Tryz.ntmps62;go_wp2_with (refine sq_ ?_;clear hO hf;intro w9 hO hf);go_ret;exact ⟨rfl,hO.toExt⟩
theorem zBE (p:Nat) (d:Dk):Reads Tryz.prog 143 #[.pointer (some ⟨p,0,none⟩)] [zAC p d] (.int .i64 d.now.length):=by
 intro w L0 hO;simp only [FZ] at hO;obtain ⟨⟨⟨ka,kc⟩,⟨na,nc⟩,⟨wa,wc⟩⟩,hO⟩:=hO.frzEx;replace hO:=hO.frzMany;dsimp only at hO;simp only [FZ] at hO;(replace hf:=fa_ hO);go_enter Tryz.func143,Tryz.ntmps143;go_wp2_with (refine sq_ ?_;clear hO hf;intro w9 hO hf);go_ret;exact ⟨rfl,hO.toExt⟩
def Dk.read (d:Dk) (n:Int):ByteArray×Nat:=if d.down then (⟨#[]⟩,10) else if n<0∨d.now.length≤n then (⟨#[]⟩,1) else (d.now.getD n.toNat ⟨#[]⟩,0)
theorem zOh {S:Nat→Prop} {W w:World} {l l':List Rs} {e:TypeId} {size n cap:Nat} {a:Option Addr} {xs:List Value} (h:Own S W w l) (hp:Pick l (.frz (Row2 e size a n cap xs)) l'):ValsAt w a xs:=(h.factOf hp).1
theorem zO8 (p:Nat) (d:Dk) (n:Int):Reads Tryz.prog 160 #[.pointer (some ⟨p,0,none⟩),.int .i64 n] [zAC p d] (.tuple #[.string (d.read n).1,errV (d.read n).2]):=by
 intro w L0 hO;simp only [FZ] at hO;obtain ⟨⟨⟨ka,kc⟩,⟨na,nc⟩,⟨wa,wc⟩⟩,hO⟩:=hO.frzEx;replace hO:=hO.frzMany;dsimp only at hO;simp only [FZ] at hO;(replace hf:=fa_ hO);obtain ⟨kept,now,wait,fuse,down⟩:=d;dsimp only at *;cases down
 ·by_cases hb:n<0∨now.length≤n
  ·rw [show Dk.read ⟨kept,now,wait,fuse,false⟩ n=(⟨#[]⟩,1) from by simp [Dk.read,hb]];go_enter Tryz.func160,Tryz.ntmps160;go_wp2_with (refine sq_ ?_;clear hO;(try clear hf);intro w9 hO hf);all_goals (first|(exfalso;omega)|(go_ret2;exact ⟨rfl,hO.toExt⟩))
  ·obtain ⟨k,rfl⟩:=Int.eq_ofNat_of_zero_le (show 0≤n by omega);have hk:k<now.length:=by omega
   have hb':=hb;rw [show Dk.read ⟨kept,now,wait,fuse,false⟩ (k:Int)=(now[k],0) from by simp [Dk.read,hb,hk]];obtain ⟨g,off,rfl⟩:=(zOh hO (a:=na) (xs:=now.map .string) (e:=9) (cap:=nc) (size:=1) (n:=now.length) pk_).some (i:=k) (v:=.string now[k]) (by simp [hk]);have hc9:=(zOh hO (xs:=now.map .string) (e:=9) (cap:=nc) (size:=1) (n:=now.length) pk_).get (i:=k) (v:=.string now[k]) (by simp [hk]);clear hb hb';go_enter Tryz.func160,Tryz.ntmps160;go_wp2_with (refine sq_ ?_;clear hO;(try clear hf);intro w9 hO hf);go_ret2;exact ⟨rfl,hO.toExt⟩
 ·rw [show Dk.read ⟨kept,now,wait,fuse,true⟩ n=(⟨#[]⟩,10) from rfl];go_enter Tryz.func160,Tryz.ntmps160;go_wp2_with (refine sq_ ?_;clear hO;(try clear hf);intro w9 hO hf);go_ret2;exact ⟨rfl,hO.toExt⟩
theorem zSV (p:Nat) (d d':Dk) (i:Nat) (s:ByteArray) (hf1:-1≤d.fuse) (hf2:d.fuse≤9223372036854775807) (hi:i<d.now.length) (hs:s.size≤96) (hst:d.step=(0,d')) (hw:d.wait.length≤1000000) :
 Does Tryz.prog 144 #[.pointer (some ⟨p,0,none⟩),.int .i64 i,.string s] [zAC p d] (fun _:Unit=>(errV 0,[zAC p (d'.write i s)])):=by
 intro S W w L0 hO;simp only [CA] at hO;have H:=zGD p d hf1 hf2;rw [hst] at H;have hd':d'.now=d.now∧d'.wait=d.wait:=by
  unfold Dk.step at hst;split at hst
  ·cases hst
  ·split at hst
   ·cases hst
   ·cases hst;exact ⟨rfl,rfl⟩
 clear hst;obtain ⟨kept',now',wait',fuse',down'⟩:=d';dsimp only at hd';obtain ⟨rfl,rfl⟩:=hd';have e0:errV 0=.nilIface:=rfl;go_enter Tryz.func144,Tryz.ntmps144;obtain ⟨⟨⟨ka,kc⟩,⟨na,nc⟩,⟨wa,wc⟩⟩,hf⟩:=hO.facts.1;simp only [FZ,Nat.reduceAdd] at hf;go_wp2_with ((go_at_call 210;(with_reducible refine Does.use hO (H) tk_ (du_ ?_);clear hO;(try clear hf);intro x9 w9 hO hf;obtain ⟨⟨⟨ka,kc⟩,⟨na,nc⟩,⟨wa,wc⟩⟩,hO⟩:=hO.ofEx;replace hO:=hO.unpack;dsimp only at hO;simp only [CA] at hO;(replace hf:=fa_ hO))));obtain ⟨iT,hiT,hzT,hsT,hbT⟩:=info_parts Tryz.infoTurn;obtain ⟨ng,rfl,hfz,hnb⟩:=hO.rowAt (n:=d.now.length) (e:=9) (xs:=d.now.map .string) (cap:=nc) pk_ (by omega);(replace hf:=fa_ hO);(refine rg_ hO ((0,0)::(0,1)::(0,2)::(1,3)::(0,4)::(0,5)::(3,6)::(0,7)::(5,8)::[]) ?_;clear hO;intro w9 hO;replace hf:=fa_ hO;(repeat (first|(apply zAG _ rfl rfl rfl;focus (intro w8 K8 hK8;(repeat (first | go_skip | go_guarded | go_step));exact hK8))|(apply zAJ _ rfl rfl rfl;focus (intro w8 hx8 K8 hK8;have hO:=hO.ext hx8;(replace hf:=fa_ hO);skip;(repeat (first | go_skip | go_guarded | go_step));exact hK8))|(apply zAL _ rfl;(focus (intro w8 hx8 K8 hK8;have hO:=hO.ext hx8;(replace hf:=fa_ hO);(repeat (first | go_skip | go_guarded | go_step | (go_at_call 141;(with_reducible refine Calls.mono (zL3 _ _ hs) ?_;rintro e7 w7 ⟨rfl,hx7⟩;dsimp only))));(first | exact xt_ | exact hK8 _ xt_)));(focus (exact rfl));intro w8 hx8;replace hO:=hO.ext hx8;clear hx8;(replace hf:=fa_ hO)))));have hil:i<(d.now.map Value.string).length:=by simpa using hi
 have hc9:=hO.cellAt (g:=ng) (e:=9) (xs:=d.now.map .string) (i:=i) (v:=.string d.now[i]) pk_ (by simp [hi]);(refine zAE rfl ?_;intro K8 hK8;(repeat (first | go_skip | go_guarded | go_step));refine hK8 _ _ trivial ?_;clear hK8 K8;with_reducible apply zA0;(focus (exact st_ hO));clear hO;intro w9 hO;(try dsimp only [List.set] at hO);(replace hf:=fa_ hO));clear hc9;refine zAA ?_;go_wp2_with fail;(refine rg_ hO ((0,0)::(0,1)::(0,2)::(0,3)::(1,4)::(0,5)::(0,6)::(0,7)::(0,8)::(1,9)::(0,10)::(0,11)::(1,12)::(0,13)::(4,14)::(5,15)::(0,16)::(0,17)::(5,18)::[]) ?_;clear hO;intro w9 hO;replace hf:=fa_ hO;(repeat (first|(apply zAG _ rfl rfl rfl;focus (intro w8 K8 hK8;(repeat (first | go_skip | go_guarded | go_step));exact hK8))|(apply zAJ _ rfl rfl rfl;focus (intro w8 hx8 K8 hK8;have hO:=hO.ext hx8;(replace hf:=fa_ hO);(have hc9:=hO.cellAt (g:=ng) (e:=9) (i:=i) (v:=.string (zAK s)) pk_ (by simp [hi]));(repeat (first | go_skip | go_guarded | go_step));exact hK8))|(apply zAL _ rfl;(focus (intro w8 hx8 K8 hK8;have hO:=hO.ext hx8;(replace hf:=fa_ hO);(repeat (first | go_skip | go_guarded | go_step | fail));(first | exact xt_ | exact hK8 _ xt_)));(focus (exact rfl));intro w8 hx8;replace hO:=hO.ext hx8;clear hx8;(replace hf:=fa_ hO)))));(refine zBt rfl ?_;intro K8 hK8;(repeat (first | go_skip | go_guarded | go_step));refine hK8 _ _ xt_ ?_;clear hK8 K8;with_reducible refine zAV hO ?_;clear hO;intro w9 hO;(replace hf:=fa_ hO));(refine ss_ hO ?_;clear hO;(try clear hf);intro w9 hO hf);(refine zAE rfl ?_;intro K8 hK8;refine zAH hO pk_ pk_ rfl (.tmp 41) (.tmp 51) 213 rfl iT _ 24 Tryz.underlying213 hiT hzT hsT hbT rfl (by omega) rfl _ _ rfl (by rfl) (by repeat (first | exact zAp | refine zAf rfl ?_)) (by unfold maxLen;omega) (by omega) ?_;clear hO;intro ka9 kc9 w9 hO;(replace hf:=fa_ hO);go_step;refine hK8 _ _ trivial ?_;clear hK8 K8);(refine ss_ hO ?_;clear hO;(try clear hf);intro w9 hO hf);(refine zAE rfl ?_;intro K8 hK8;(repeat (first | go_skip | go_guarded | go_step));refine hK8 _ _ trivial ?_;clear hK8 K8;with_reducible apply zA0;(focus (exact st_ hO));clear hO;intro w9 hO;(try dsimp only [List.set] at hO);(replace hf:=fa_ hO));refine zAA ?_;go_wp2_with (refine sq_ ?_;clear hO;(try clear hf);intro w9 hO hf);go_ret;refine ⟨(),rfl,?_⟩;refine Own.toEx ((ka,kc),(some ⟨ng,0,none⟩,nc),(ka9,kc9)) (Own.pack ?_);simp only [Dk.write,List.length_set,List.length_append,List.length_cons,List.length_nil,Nat.zero_add,List.map_set,List.flatMap_append,List.flatMap_cons,List.flatMap_nil,zSX,List.append_nil];exact hO.give tk_ kp_
def Dk.writeR (d:Dk) (n:Int) (s:ByteArray):Nat×Dk:=if n<0∨d.now.length≤n∨96<s.size then (1,d) else if d.step.1=0 then (0,d.step.2.write n.toNat s) else (10,d.step.2)
theorem zKB (d:Dk):d.step.1=0∨d.step.1=10:=by
 unfold Dk.step;split
 ·exact .inr rfl
 ·split
  ·exact .inr rfl
  ·exact .inl rfl
theorem zCH (p:Nat) (d:Dk) (n:Int) (s:ByteArray) (hf1:-1≤d.fuse) (hf2:d.fuse≤9223372036854775807) (hw:d.wait.length≤1000000) :
 Does Tryz.prog 144 #[.pointer (some ⟨p,0,none⟩),.int .i64 n,.string s] [zAC p d] (fun _:Unit=>(errV (d.writeR n s).1,[zAC p (d.writeR n s).2])):=by
 by_cases hb:n<0∨d.now.length≤n∨96<s.size
 ·rw [show d.writeR n s=(1,d) from by simp [Dk.writeR,hb]];intro S W w L0 hO;simp only [CA] at hO;go_enter Tryz.func144,Tryz.ntmps144;obtain ⟨⟨⟨ka,kc⟩,⟨na,nc⟩,⟨wa,wc⟩⟩,hf⟩:=hO.facts.1;simp only [FZ,Nat.reduceAdd] at hf;go_wp2_with fail;all_goals (first|(exfalso;omega)|(go_ret;exact ⟨(),rfl,hO⟩))
 ·obtain ⟨i,rfl⟩:=Int.eq_ofNat_of_zero_le (show 0≤n by omega);rcases zKB d with hs | hs
  ·have:=zSV p d d.step.2 i s hf1 hf2 (by omega) (by omega) (by rw [←hs]) hw;rw [show d.writeR (i:Int) s=(0,d.step.2.write i s) from by unfold Dk.writeR;rw [if_neg hb,if_pos hs];simp];exact this
  ·have H:=zGD p d hf1 hf2;rw [hs] at H;rw [show d.writeR (i:Int) s=(10,d.step.2) from by unfold Dk.writeR;rw [if_neg hb,if_neg (by omega)]];clear hs;generalize d.step.2=d2 at *;have e:errV 10=.iface 124 (.int .i64 10):=rfl;rw [e] at H ⊢;clear e;intro S W w L0 hO;simp only [CA] at hO;go_enter Tryz.func144,Tryz.ntmps144;obtain ⟨⟨⟨ka,kc⟩,⟨na,nc⟩,⟨wa,wc⟩⟩,hf⟩:=hO.facts.1;simp only [FZ,Nat.reduceAdd] at hf;go_wp2_with ((go_at_call 210;(with_reducible refine Does.use hO (H) tk_ (du_ ?_);clear hO;(try clear hf);intro x9 w9 hO hf)));all_goals (first|(exfalso;omega)|(go_ret;exact ⟨(),rfl,hO⟩))
def Dk.flush (d:Dk):Nat×Dk:=if d.step.1=0 then (0,{ d.step.2 with kept:=d.step.2.now,wait:=[] }) else (10,d.step.2)
theorem zQC (d:Dk):d.step.2.now=d.now∧d.step.2.kept=d.kept:=by
 unfold Dk.step;split
 ·exact ⟨rfl,rfl⟩
 ·split<;>exact ⟨rfl,rfl⟩
theorem Tryz.sizeStr:(Tryz.prog.info? 9).map (·.size)=some 1:=by kernel_rfl
theorem zMb {α:Type} {f:α→Value} (h:∀x,(f x).oneCell'=true) (l:List α):∀u∈l.map f,u.oneCell'=true:=fun u hu=>by
 obtain ⟨x,_,rfl⟩:=List.mem_map.1 hu;exact h x
theorem zPe {α:Type} (xs cs:List α) (h:cs.length=xs.length):splice xs 0 cs=cs:=by
 unfold splice;rw [List.drop_of_length_le (by omega)];simp
theorem zC7 (p:Nat) (d:Dk) (hf1:-1≤d.fuse) (hf2:d.fuse≤9223372036854775807) (hn:0<d.now.length) (hk:d.kept.length=d.now.length) :
 Does Tryz.prog 145 #[.pointer (some ⟨p,0,none⟩)] [zAC p d] (fun _:Unit=>(errV d.flush.1,[zAC p d.flush.2])):=by
 have H:=zGD p d hf1 hf2;have hss:=zQC d;rcases zKB d with hs | hs
 ·rw [show d.flush=(0,{ d.step.2 with kept:=d.step.2.now,wait:=[] }) from by simp [Dk.flush,hs]];rw [hs] at H;clear hs;generalize d.step.2=d2 at *;obtain ⟨kept',now',wait',fuse',down'⟩:=d2;dsimp only at hss;obtain ⟨rfl,rfl⟩:=hss;have e:errV 0=.nilIface:=rfl;rw [e] at H ⊢;clear e;intro S W w L0 hO;simp only [CA] at hO;go_enter Tryz.func145,Tryz.ntmps145;go_wp2_with ((go_at_call 210;(with_reducible refine Does.use hO (H) tk_ (du_ ?_);clear hO;(try clear hf);intro x9 w9 hO hf;obtain ⟨⟨⟨ka,kc⟩,⟨na,nc⟩,⟨wa,wc⟩⟩,hO⟩:=hO.ofEx;replace hO:=hO.unpack;dsimp only at hO;simp only [CA] at hO;(replace hf:=fa_ hO))));obtain ⟨ng,rfl,hfz,hnb⟩:=hO.rowAt (a:=na) (n:=d.now.length) (e:=9) (xs:=d.now.map .string) (cap:=nc) pk_ hn;obtain ⟨kg,rfl,hfz,hnb⟩:=hO.rowAt (a:=ka) (n:=d.kept.length) (e:=9) (xs:=d.kept.map .string) (cap:=kc) pk_ (by omega);clear hfz hnb;rw [hk] at hO;(replace hf:=fa_ hO);(refine rg_ hO ((0,0)::(0,1)::(0,2)::(1,3)::(0,4)::(0,5)::(0,6)::(1,7)::(5,8)::[]) ?_;clear hO;intro w9 hO;replace hf:=fa_ hO;(refine ss_ hO ?_;clear hO hf;intro w9 hO hf));refine zAE rfl ?_;intro K8 hK8;refine zDP hO (g:=kg) (e:=9) (n:=d.now.length) (xs:=(d.kept.map .string)) pk_ rfl (.tmp 11) (.tmp 15) 69 69 rfl Tryz.underlying69 Tryz.sizeStr 0 d.now.length _ ⟨ng,0,none⟩ d.now.length _ rfl rfl (d.now.map .string) (by simp;try omega) (fun j v hj=>by rw [zBd];exact zBb (hO.vals (xs:=(d.now.map .string)) (e:=9) pk_) j v hj) (by simp;try omega) (zMb (fun _=>rfl) _) ?_;clear hO;intro w9 hO;rw [zPe _ _ (by simp;try omega)] at hO;(replace hf:=fa_ hO);go_step;refine hK8 _ _ trivial ?_;clear hK8 K8;refine zAA ?_;go_wp2_with (refine sq_ ?_;clear hO hf;intro w9 hO hf);obtain hO':=hO.nil 218 2;clear hO;replace hO:=hO';go_ret;refine ⟨(),rfl,?_⟩;refine Own.toEx ((some ⟨kg,0,none⟩,kc),(some ⟨ng,0,none⟩,nc),(none,0)) (Own.pack ?_);simp only [List.length_nil,List.flatMap_nil];exact hO.give tk_ kp_
 ·rw [show d.flush=(10,d.step.2) from by simp [Dk.flush,hs]];rw [hs] at H;clear hs hss;generalize d.step.2=d2 at *;have e:errV 10=.iface 124 (.int .i64 10):=rfl;rw [e] at H ⊢;clear e;intro S W w L0 hO;simp only [CA] at hO;go_enter Tryz.func145,Tryz.ntmps145;go_wp2_with ((go_at_call 210;(with_reducible refine Does.use hO (H) tk_ (du_ ?_);clear hO;(try clear hf);intro x9 w9 hO hf)));go_ret;exact ⟨(),rfl,hO⟩
def zAe (bit:Nat→Bool) (wait:List (Nat×ByteArray)) (kept:List ByteArray):Nat→List ByteArray
 | 0=>kept
 | j+1=>match wait[j]? with
  | some (a,s)=>if bit j then (zAe bit wait kept j).set a s else zAe bit wait kept j
  | none=>zAe bit wait kept j
theorem zBj (bit:Nat→Bool) (wait:List (Nat×ByteArray)) (kept:List ByteArray):∀j,(zAe bit wait kept j).length=kept.length
 | 0=>rfl
 | j+1=>by
  unfold zAe;split
  ·split
   ·rw [List.length_set];exact zBj bit wait kept j
   ·exact zBj bit wait kept j
  ·exact zBj bit wait kept j
def zLI (K:Int) (i:Nat):Bool:=bits .and .u64 (K / 2 ^ (i % 64)) 1==1
def Dk.restart (d:Dk) (K:Int):Dk:=⟨zAe (zLI K) d.wait d.kept d.wait.length,zAe (zLI K) d.wait d.kept d.wait.length,[],-1,false⟩
