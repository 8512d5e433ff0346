/- Texts Dk5, Dk6, Dk7 of this claim, laid together. -/
import Derived.Test.YtagcmjmcjpjihaaGreatDoorHC14
import Derived.Test.YtagcmjmcjpjihaaGreatDoorHC12
set_option linter.unusedVariables false
set_option linter.unusedSimpArgs false
set_option maxHeartbeats 8000000
set_option maxRecDepth 100000
namespace Go.Proofs.YtagcmjmcjpjihaaGreatDoor
open Go.RowKit
theorem zPE (g n c:Nat) (l:List ByteArray) (hl:l.length=n) (hn:n≤1000) :
 Does Tryz.prog 142 #[.slice (some ⟨g,0,none⟩) n c] [Row2 9 1 (some ⟨g,0,none⟩) n c (l.map .string)]
  (fun x:Option Addr×Nat=>(.slice x.1 n x.2,[Row2 9 1 x.1 n x.2 (l.map .string),Row2 9 1 (some ⟨g,0,none⟩) n c (l.map .string)])):=by
 subst hl;obtain ⟨iS,hiS,hzS,hsS,hbS⟩:=info_parts Tryz.infoStr;intro S W w L0 hO;simp only [CA] at hO;(replace hf:=fa_ hO);have hu:=Tryz.underlying69;go_enter Tryz.func142,Tryz.ntmps142;go_wp2_with (first|(at_builtin;(have hO9:=hO.pick (r:=Var _ [] 9) pk_;replace hO:=Own.varRow (n:=0) (size:=1) rfl (by simp [maxLen]) hO9;clear hO9;refine zCt hO pk_ rfl (.tmp 5) (.tmp 6) 69 rfl iS _ 16 Tryz.underlying69 hiS hzS hsS hbS rfl (by omega) rfl g 0 l.length _ (l.map .string) rfl (by simp) (zBb (hO.vals (xs:=l.map .string) (e:=9) pk_)) (zMb (fun _=>rfl) _) (by unfold maxLen;omega) (by omega) ?_;clear hO;intro ka9 kc9 w9 hO;(replace hf:=fa_ hO)))|(refine sq_ ?_;clear hO hf;intro w9 hO hf));go_ret;refine ⟨(ka9,kc9),by simp,?_⟩;simp only [Nat.zero_add,List.nil_append] at hO;exact hO.give tk_ kp_
theorem zSc (y:Nat) (w:World) (h1:y≤1000):Calls Tryz.prog 209 #[.int .u64 1,.int .u64 y] w fun e w'=>e=.returned (.tuple #[.int .u64 0,.int .u64 y])∧w'=w:=by
 have b1:bits .and .u64 1 4294967295=1:=by kernel_rfl
 have b2:bits .and .u64 (y:Int) 4294967295=(y:Int):=by
  have h:=bits_and_u64_nat y 4294967295 (by omega) (by omega);have e:(y&&& 4294967295)=y:=by
   have:=Nat.and_two_pow_sub_one_eq_mod y 32;have e2:(2 ^ 32-1:Nat)=4294967295:=by decide
   rw [e2] at this;rw [this];omega
  rw [e] at h;exact h
 go_enter Tryz.func209,Tryz.ntmps209;go_wp2;refine bodyPost_ret (results_tmp2 rfl _ _ _) rfl ⟨?_,rfl⟩;simp only [IntKind.wrap_u64,Int.one_mul,b1,b2];have e1:∀(z:Int),0≤z→z<4294967296→z / 4294967296=0:=fun z h h'=>by omega
 have e3:(y:Int) % 18446744073709551616=y:=by omega
 have e4:(y:Int) / 4294967296=0:=by omega
 have b3:bits .and .u64 0 4294967295=0:=by kernel_rfl
 simp [e3,e4,b1,b2,b3]
theorem zIb (v e:Value) (n k m:Nat) (hk:k+m≤n):splice (List.replicate k v++List.replicate (n-k) e) k (List.replicate m v)=List.replicate (k+m) v++List.replicate (n-(k+m)) e:=by
 unfold splice;rw [List.take_append_of_le_length (by simp),List.take_of_length_le (by simp),List.length_replicate,List.drop_append,List.drop_of_length_le (by simp),List.length_replicate,List.nil_append,List.drop_replicate,←List.append_assoc,List.replicate_append_replicate]
 congr 2;omega
theorem zSi (v e:Value) (n k m j:Nat) (u:Value) (hm:m≤k) (hj:(List.replicate m v)[j]?=some u):(List.replicate k v++List.replicate (n-k) e)[j]?=some u:=by
 obtain ⟨h1,h2⟩:=List.getElem?_eq_some_iff.1 hj;rw [List.length_replicate] at h1;rw [List.getElem?_append_left (by simp;omega)];rw [←hj];rw [List.getElem?_replicate,List.getElem?_replicate,if_pos (by omega),if_pos h1]
theorem zSK (v:Value) (h:v.oneCell'=true) (m:Nat):∀u∈List.replicate m v,u.oneCell'=true:=fun u hu=>by rw [(List.mem_replicate.1 hu).2];exact h
theorem zNf (g:Nat) (v:ByteArray) (n:Nat) (hn:1≤n) (hn2:n≤1000) :
 Does Tryz.prog 140 #[.slice (some ⟨g,0,none⟩) 1 1,.int .i64 n] [Row2 9 1 (some ⟨g,0,none⟩) 1 1 [.string v]]
  (fun g':Nat=>(.slice (some ⟨g',0,none⟩) n n,[Row2 9 1 (some ⟨g',0,none⟩) n n (List.replicate n (.string v))])):=by
 obtain ⟨iS,hiS,hzS,hsS,hbS⟩:=info_parts Tryz.infoStr;intro S W w L0 hO;simp only [CA] at hO;(replace hf:=fa_ hO);go_enter Tryz.func140,Tryz.ntmps140;go_wp2_with (first|(go_at_call 209;(with_reducible refine Own.quiet hO ((zSc n _ (by omega)).mono (fun e w' h=>⟨h.1,h.2 ▸ Ext.refl _⟩)) (ru_ ?_);clear hO hf;intro w9 hO hf))|(at_make;(refine zEu hO rfl (.tmp 29) (.tmp 29) 69 rfl 9 iS _ 1 Tryz.underlying69 hiS hzS hsS .i64 .i64 _ _ n rfl rfl rfl rfl (by rw [hbS];omega) (by unfold maxLen;omega) ?_;clear hO;intro g9 w9 hO;rw [Nat.mul_one,zF4 rfl] at hO;(replace hf:=fa_ hO)))|((refine zDP hO (n:=n) (xs:=List.replicate n (.string ⟨#[]⟩)) pk_ rfl (.tmp 31) (.tmp 32) 69 69 rfl Tryz.underlying69 Tryz.sizeStr 0 n _ ⟨g,0,none⟩ 1 _ rfl rfl [.string v] (Nat.min_eq_left hn).symm (fun j u hj=>by rw [zBd];exact zBb (hO.vals (xs:=[.string v]) (e:=9) pk_) j u hj) (by simp;omega) (zS2 rfl) ?_;clear hO;intro w9 hO;(replace hf:=fa_ hO)))|(refine sq_ ?_;clear hO hf;intro w9 hO hf));have hO9:Own S W w9 (Row2 9 1 (some ⟨g9,0,none⟩) n n (List.replicate 1 (.string v)++List.replicate (n-1) (.string ⟨#[]⟩))::L0):=by
  have e:splice (List.replicate n (Value.string ⟨#[]⟩)) 0 [.string v]=_:=zIb (.string v) (.string ⟨#[]⟩) n 0 1 (by omega);simp only [Nat.zero_add] at e;rw [←e];exact hO.cut sb_
 clear hO hf;go_loopw [8] (fun i wr=>∃k:Nat,1≤k∧k≤n∧i=.int .i64 k∧Own S W wr (Row2 9 1 (some ⟨g9,0,none⟩) n n (List.replicate k (.string v)++List.replicate (n-k) (.string ⟨#[]⟩))::L0)) (fun i _=>n-(intOf i).toNat)
 case atStart=>exact ⟨1,by omega,hn,by simp [goInt],hO9⟩
 case round=>
  clear hO9;obtain ⟨k,hk1,hkn,rfl,hO⟩:=hrel;rename World=>w1
  (replace hf:=fa_ hO);by_cases hlt:k<n
  ·have q1:(0:Int)≤(k:Int):=by omega
   have q2:(k:Int)≤(n:Int):=by omega
   go_wp2_with (refine sq_ ?_;clear hO;(try clear hf);intro w9 hO hf);(refine rg_ hO ((0,0)::(0,1)::(0,2)::(0,3)::(0,4)::(0,5)::(0,6)::(5,7)::(0,8)::(0,9)::[]) ?_;clear hO;intro w9 hO;replace hf:=fa_ hO;(refine ss_ hO ?_;clear hO hf;intro w9 hO hf));refine zAE rfl ?_;intro K8 hK8;refine zDP hO pk_ rfl (.tmp 41) (.tmp 44) 69 69 rfl Tryz.underlying69 Tryz.sizeStr k (n-k) _ ⟨g9,0,none⟩ k _ rfl rfl (List.replicate (Nat.min k (n-k)) (.string v)) (by simp) (fun j u hj=>by rw [zBd];exact zBb (hO.vals (e:=9) pk_) j u (zSi _ _ n k _ j u (Nat.min_le_left _ _) hj)) (by rw [List.length_replicate];have:Nat.min k (n-k)≤n-k:=Nat.min_le_right _ _;omega) (zSK _ rfl _) ?_;clear hO;intro w9 hO;go_step;refine hK8 _ _ trivial ?_;clear hK8 K8;rw [zIb _ _ _ _ _ (by have:Nat.min k (n-k)≤n-k:=Nat.min_le_right _ _;omega)] at hO;rw [show (goInt (List.replicate (Nat.min k (n-k)) (Value.string v)).length)=.int .i64 ((Nat.min k (n-k):Nat):Int) from by simp [goInt]];have hm1:Nat.min k (n-k)≤n-k:=Nat.min_le_right _ _;have hm2:1≤Nat.min k (n-k):=Nat.le_min.2 ⟨hk1,by omega⟩;generalize Nat.min k (n-k)=m at *;(refine ss_ hO ?_;clear hO hf;intro w9 hO hf);refine zAA ?_;go_wp2_with (refine sq_ ?_;clear hO hf;intro w9 hO hf);refine ⟨⟨k+m,by omega,by omega,by go_num,hO⟩,by simp [intOf];omega⟩
  ·obtain rfl:k=n:=by omega
   go_wp2_with (refine sq_ ?_;clear hO;(try clear hf);intro w9 hO hf);go_ret;refine ⟨g9,rfl,?_⟩;simp only [Nat.sub_self,List.replicate_zero,List.append_nil] at hO;dsimp only;(try simp only [CA]);exact hO.cut sb_
def Dk.new (n:Nat):Dk:=⟨List.replicate n (zAn 96),List.replicate n (zAn 96),[],-1,false⟩
theorem zED:zAK ⟨#[]⟩=zAn 96:=by unfold zAK;apply ByteArray.ext;simp [zAn];rfl
theorem zSO (n:Nat) (h1:1≤n) (h2:n≤200):Does Tryz.prog 65 #[.int .i64 n] [] (fun p:Nat=>(.tuple #[.pointer (some ⟨p,0,none⟩),.nilIface],[zAC p (Dk.new n)])):=by
 intro S W w L0 hO;simp only [CA] at hO;go_enter Tryz.func65,Tryz.ntmps65;go_wp2_with (first|(go_at_call 141;(with_reducible refine Own.quiet hO (zL3 _ _ (by decide)) (ru_ ?_);clear hO;(try clear hf);intro w9 hO hf;rw [zED]))|(go_at_call 140;(have hO9:=hO.pick (r:=Var _ [_] 9) pk_;replace hO:=Own.varRow (n:=1) (size:=1) rfl (by simp [maxLen]) hO9;clear hO9;(go_at_call 140;(with_reducible refine Does.use hO (zNf _ _ n h1 (by omega)) tk_ (du_ ?_);clear hO;(try clear hf);intro x9 w9 hO hf;rw [←List.map_replicate] at hO;(replace hf:=fa_ hO)))))|(go_at_call 142;((go_at_call 142;(with_reducible refine Does.use hO (zPE _ _ _ (List.replicate n (zAn 96)) (by simp) (by omega)) tk_ (du_ ?_);clear hO;(try clear hf);intro x9 w9 hO hf;obtain ⟨ka9,kc9⟩:=x9;dsimp only at hO ⊢;(replace hf:=fa_ hO)))))|(refine sq_ ?_;clear hO;(try clear hf);intro w9 hO hf));have hO9:=hO.nil 218 2;clear hO;have hO:=hO9;go_ret2;refine ⟨_,rfl,?_⟩;(try simp only [CA]);refine Own.toEx ((some ⟨x9,0,none⟩,n),(ka9,kc9),(none,0)) (Own.pack ?_);simp only [Dk.new,List.length_replicate,List.length_nil,List.flatMap_nil,List.cons_append,List.nil_append];exact hO.cut sb_
structure DkOk (k j:Nat) (d:Dk):Prop where
 now:d.now.length=k
 kept:d.kept.length=k
 f1:-1≤d.fuse
 f2:d.fuse≤9223372036854775807
 wait:d.wait.length≤j
 ats:∀t∈d.wait,t.1<k
theorem DkOk.more {k j:Nat} {d:Dk} (h:DkOk k j d):DkOk k (j+1) d:=⟨h.now,h.kept,h.f1,h.f2,by have:=h.wait;omega,h.ats⟩
theorem DkOk.step {k j:Nat} {d:Dk} (h:DkOk k j d):DkOk k j d.step.2:=by
 obtain ⟨kept,now,wait,fuse,down⟩:=d;obtain ⟨h1,h2,h3,h4,h5,h6⟩:=h;unfold Dk.step;dsimp only at *;split
 ·exact ⟨h1,h2,h3,h4,h5,h6⟩
 ·split
  ·exact ⟨h1,h2,by dsimp only;omega,by dsimp only;omega,h5,h6⟩
  ·refine ⟨h1,h2,?_,?_,h5,h6⟩<;>(dsimp only;unfold zGQ;split<;>omega)
theorem DkOk.write {k j:Nat} {d:Dk} (h:DkOk k j d) (n:Int) (s:ByteArray):DkOk k (j+1) (d.writeR n s).2:=by
 unfold Dk.writeR;split
 ·exact h.more
 ·rename_i hb;split
  ·have h':=h.step;have hn:=h.now;refine ⟨by simp [Dk.write,h'.now],h'.kept,h'.f1,h'.f2,by have:=h'.wait;simp [Dk.write];omega,?_⟩;intro t ht;rcases List.mem_append.1 ht with ht | ht
   ·exact h'.ats t ht
   ·rw [List.mem_singleton.1 ht];show n.toNat<k;omega
  ·exact h.step.more
theorem DkOk.flush {k j:Nat} {d:Dk} (h:DkOk k j d):DkOk k j d.flush.2:=by
 unfold Dk.flush;have h':=h.step;split
 ·exact ⟨h'.now,h'.now,h'.f1,h'.f2,Nat.zero_le _,fun t ht=>by cases ht⟩
 ·exact h'
theorem DkOk.restart {k j:Nat} {d:Dk} (h:DkOk k j d) (K:Int):DkOk k j (d.restart K):=
 ⟨by simp [Dk.restart,zBj,h.kept],by simp [Dk.restart,zBj,h.kept],by simp [Dk.restart],by simp [Dk.restart],Nat.zero_le _,fun t ht=>by cases ht⟩
