/- Texts Keys of this claim, laid together. -/
import Derived.Lib.IndexMore
import Derived.Lib.AtoiAll
import Derived.Lib.ItoaNum
set_option linter.unusedVariables false
set_option linter.unusedSimpArgs false
namespace Go.Proofs.YtagcmjmcjpjihaaGreatDoor
theorem zGc (c:UInt8) (b:List UInt8):∀a:List UInt8,c∉a→Lib.index (a++c::b) [c]=a.length
 | [],_=>by simp [Lib.index,List.isPrefixOf]
 | x::a,h=>by
  have hx:¬c=x:=fun e=>h (e ▸ List.mem_cons_self ..)
  have ih:=zGc c b a (fun hm=>h (List.mem_cons_of_mem _ hm));have e:(List.isPrefixOf [c] (x::(a++c::b)))=false:=by simp [List.isPrefixOf,hx]
  show Lib.index (x::(a++c::b)) [c]=_;unfold Lib.index;rw [e,ih];have:((a.length:Int) == -1)=false:=by rw [beq_eq_false_iff_ne];omega
  simp [this]
theorem zFW (c:UInt8):∀a:List UInt8,c∉a→Lib.index a [c]=-1
 | [],_=>by simp [Lib.index]
 | x::a,h=>by
  have hx:¬c=x:=fun e=>h (e ▸ List.mem_cons_self ..)
  have ih:=zFW c a (fun hm=>h (List.mem_cons_of_mem _ hm));have e:(List.isPrefixOf [c] (x::a))=false:=by simp [List.isPrefixOf,hx]
  unfold Lib.index;rw [e,ih];rfl
theorem zGy (c:UInt8) (a b:List UInt8) (h:c∉a):Lib.cut (a++c::b) [c]=(a,b,true):=by
 unfold Lib.cut;rw [zGc c b a h,if_pos (by omega)];simp
theorem zRE (c:UInt8) (a:List UInt8) (h:c∉a):Lib.cut a [c]=(a,[],false):=by
 unfold Lib.cut;rw [zFW c a h,if_neg (by omega)]
theorem zR7 (c:UInt8) (s:List UInt8):(∃a b,s=a++c::b∧c∉a∧Lib.cut s [c]=(a,b,true))∨(c∉s∧Lib.cut s [c]=(s,[],false)):=by
 by_cases h:c∈s
 ·obtain ⟨a,b,rfl,ha⟩:=List.eq_append_cons_of_mem h;exact .inl ⟨a,b,rfl,ha,zGy c a b ha⟩
 ·exact .inr ⟨h,zRE c s h⟩
def d8 (n:Nat):UInt8:=UInt8.ofNat (48+n)
theorem zA2 (n:Nat) (h:n<10):(d8 n).toNat=48+n:=by
 unfold d8;rw [UInt8.toNat_ofNat_of_lt' (by show 48+n<256;omega)]
def esix (n:Nat):List UInt8:=[d8 (n / 100000 % 10),d8 (n / 10000 % 10),d8 (n / 1000 % 10),d8 (n / 100 % 10),d8 (n / 10 % 10),d8 (n % 10)]
theorem zCB (u:Nat) (h:¬u<10):Lib.decDigits u=Lib.decDigits (u / 10)++[d8 (u % 10)]:=by
 rw [Lib.decDigits,dif_neg h];rfl
theorem zD3 (u:Nat) (h:u<10):Lib.decDigits u=[d8 u]:=by rw [Lib.decDigits,dif_pos h];rfl
theorem dec7 (m:Nat) (h:m<1000000):Lib.decDigits (1000000+m)=49::esix m:=by
 rw [zCB _ (by omega),zCB ((1000000+m) / 10) (by omega),zCB ((1000000+m) / 10 / 10) (by omega),zCB ((1000000+m) / 10 / 10 / 10) (by omega),zCB ((1000000+m) / 10 / 10 / 10 / 10) (by omega),zCB ((1000000+m) / 10 / 10 / 10 / 10 / 10) (by omega)];have e0:(1000000+m) / 10 / 10 / 10 / 10 / 10 / 10=1:=by omega
 have e1:(1000000+m) / 10 / 10 / 10 / 10 / 10 % 10=m / 100000 % 10:=by omega
 have e2:(1000000+m) / 10 / 10 / 10 / 10 % 10=m / 10000 % 10:=by omega
 have e3:(1000000+m) / 10 / 10 / 10 % 10=m / 1000 % 10:=by omega
 have e4:(1000000+m) / 10 / 10 % 10=m / 100 % 10:=by omega
 have e5:(1000000+m) / 10 % 10=m / 10 % 10:=by omega
 have e6:(1000000+m) % 10=m % 10:=by omega
 rw [e0,e1,e2,e3,e4,e5,e6,zD3 1 (by omega)];rfl
theorem zB1 (acc d:Nat) (r:List UInt8) (h:d<10) (ha:acc<100000000000000000):Lib.parseUint10 acc (d8 d::r)=Lib.parseUint10 (acc*10+d) r:=by
 conv=>lhs;unfold Lib.parseUint10
 rw [zA2 d h,if_pos (by omega),if_neg (by omega),show 48+d-48=d from by omega,if_neg (by omega)]
theorem zRk (m:Nat) (h:m<1000000):Lib.atoiAll (esix m)=.ok (m:Int):=by
 have h0:(d8 (m / 100000 % 10)).toNat=48+m / 100000 % 10:=zA2 _ (by omega);unfold Lib.atoiAll esix;dsimp only;rw [if_neg (by rw [h0];omega)];unfold Lib.parseMag;rw [if_neg (by simp),zB1 _ _ _ (by omega) (by omega),zB1 _ _ _ (by omega) (by omega),zB1 _ _ _ (by omega) (by omega),zB1 _ _ _ (by omega) (by omega),zB1 _ _ _ (by omega) (by omega),zB1 _ _ _ (by omega) (by omega)];rw [show (((((0*10+m / 100000 % 10)*10+m / 10000 % 10)*10+m / 1000 % 10)*10+m / 100 % 10)*10+m / 10 % 10)*10+m % 10=m from by omega];simp only [Lib.parseUint10];rw [if_neg (by omega),if_neg (by rw [h0];omega),if_neg (by rw [h0];omega)]
