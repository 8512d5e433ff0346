/- Texts Str of this claim, laid together. -/
import Derived.WalkLawsBesides
set_option linter.unusedVariables false
set_option linter.unusedSimpArgs false
namespace Go.Proofs.YtagcmjmcjpjihaaGreatDoor
theorem zGu:∀a:List UInt8,Op.bytesLess a a=false
 | []=>rfl
 | a::l=>by simp [Op.bytesLess,zGu l]
theorem zHl:∀a b c:List UInt8,Op.bytesLess a b=true→Op.bytesLess b c=true→Op.bytesLess a c=true
 | _,_,[]=>fun _ h=>by cases ‹List UInt8›<;>simp [Op.bytesLess] at h
 | [],_,_::_=>fun _ _=>rfl
 | _::_,[],_=>fun h _=>by simp [Op.bytesLess] at h
 | a::x,b::y,c::z=>fun h k=>by
  simp only [Op.bytesLess,Bool.or_eq_true,Bool.and_eq_true,decide_eq_true_eq,beq_iff_eq] at *;rcases h with h | ⟨rfl,h⟩<;>rcases k with k | ⟨rfl,k⟩
  ·exact .inl (UInt8.lt_trans h k)
  ·exact .inl h
  ·exact .inl k
  ·exact .inr ⟨rfl,zHl x y z h k⟩
theorem zL8:∀a b:List UInt8,Op.bytesLess a b=true∨a=b∨Op.bytesLess b a=true
 | [],[]=>.inr (.inl rfl)
 | [],_::_=>.inl rfl
 | _::_,[]=>.inr (.inr rfl)
 | a::x,b::y=>by
  simp only [Op.bytesLess,Bool.or_eq_true,Bool.and_eq_true,decide_eq_true_eq,beq_iff_eq];rcases Nat.lt_trichotomy a.toNat b.toNat with h | h | h
  ·exact .inl (.inl (UInt8.lt_iff_toNat_lt.2 h))
  ·have h:=UInt8.toNat_inj.1 h;subst h;rcases zL8 x y with h | h | h
   ·exact .inl (.inr ⟨rfl,h⟩)
   ·exact .inr (.inl (by rw [h]))
   ·exact .inr (.inr (.inr ⟨rfl,h⟩))
  ·exact .inr (.inr (.inl (UInt8.lt_iff_toNat_lt.2 h)))
theorem zRT (a b:List UInt8) (h:Op.bytesLess a b=true):Op.bytesLess b a=false:=by
 cases k:Op.bytesLess b a with
 | false=>rfl
 | true=>have:=zHl a b a h k;rw [zGu] at this;cases this
theorem zKh:∀(a b:List UInt8),b≠[]→Op.bytesLess a (a++b)=true
 | [],b,h=>by cases b with | nil=>exact absurd rfl h | cons x y=>rfl
 | x::a,b,h=>by simp [Op.bytesLess,zKh a b h]
theorem zBH {a b:ByteArray} (h:a.toList=b.toList):a=b:=by
 have:a.data.toList=b.data.toList:=by rw [ByteArray.toList_eq,ByteArray.toList_eq] at h;exact h
 exact ByteArray.ext (Array.ext' this)
theorem toList_append (a b:ByteArray):(a++b).toList=a.toList++b.toList:=by
 rw [ByteArray.toList_eq,ByteArray.toList_eq,ByteArray.toList_eq,ByteArray.data_append,Array.toList_append]
def slt (a b:ByteArray):Bool:=Op.bytesLess a.toList b.toList
theorem zBw (a:ByteArray):slt a a=false:=zGu _
theorem zAv {a b c:ByteArray} (h:slt a b=true) (k:slt b c=true):slt a c=true:=zHl _ _ _ h k
theorem zCY (a b:ByteArray):slt a b=true∨a=b∨slt b a=true:=(zL8 a.toList b.toList).imp id (Or.imp zBH id)
theorem zBR {a b:ByteArray} (h:slt a b=true):slt b a=false:=zRT _ _ h
theorem zBr {a b:ByteArray} (h:slt a b=true):a≠b:=fun e=>by rw [e,zBw] at h;cases h
theorem zDp {a b:ByteArray} (h:slt a b=false) (hne:a≠b):slt b a=true:=((zCY a b).resolve_left (by simp [h])).resolve_left hne
theorem zDI {a b c:ByteArray} (h:slt a b=false) (k:slt b c=false):slt a c=false:=by
 cases e:slt a c with
 | false=>rfl
 | true=>
  rcases zCY a b with h1 | h1 | h1
  ·rw [h1] at h;cases h
  ·subst h1;rw [e] at k;cases k
  ·have:=zAv h1 e;rw [this] at k;cases k
theorem zDB {a b c:ByteArray} (h:slt a b=true) (k:slt c b=false):slt a c=true:=by
 rcases zCY b c with h1 | h1 | h1
 ·exact zAv h h1
 ·rw [←h1];exact h
 ·rw [h1] at k;cases k
theorem zHF {a b c:ByteArray} (h:slt b a=false) (k:slt b c=true):slt a c=true:=by
 rcases zCY a b with h1 | h1 | h1
 ·exact zAv h1 k
 ·rw [h1];exact k
 ·rw [h1] at h;cases h
theorem zTg (a b:ByteArray):(slt a b||decide (a=b))=!slt b a:=by
 rcases zCY a b with h | h | h
 ·simp [h,zBR h]
 ·subst h;simp [zBw]
 ·simp [h,zBR h,(zBr h).symm]
theorem zTY (a b:ByteArray):(Op.bytesLess a.toList b.toList||a.toList==b.toList)=!slt b a:=by
 rw [←zTg a b];have:(a.toList==b.toList)=decide (a=b):=by
  rw [Bool.eq_iff_iff];simp only [beq_iff_eq,decide_eq_true_eq];exact ⟨zBH,fun h=>by rw [h]⟩
 rw [this];rfl
def nul:ByteArray:=⟨#[0]⟩
theorem zEU:nul.toList=[0]:=by rw [ByteArray.toList_eq];rfl
theorem zEj (a:ByteArray):slt a (a++nul)=true:=by
 unfold slt;rw [toList_append];exact zKh _ _ (by rw [zEU];simp)
theorem zQV:∀a b:List UInt8,Op.bytesLess b (a++[0])=true→Op.bytesLess a b=false
 | [],[]=>fun _=>rfl
 | [],b::y=>fun h=>by
  cases y<;>simp [Op.bytesLess] at h
 | a::x,[]=>fun _=>rfl
 | a::x,b::y=>fun h=>by
  simp only [List.cons_append,Op.bytesLess,Bool.or_eq_true,Bool.and_eq_true,decide_eq_true_eq,beq_iff_eq] at h;rcases h with h | ⟨rfl,h⟩
  ·have:¬a<b:=fun k=>by exact absurd (UInt8.lt_trans h k) (by simp)
   have hne:(a==b)=false:=by rw [beq_eq_false_iff_ne];rintro rfl;simp at h
   simp [Op.bytesLess,this,hne]
  ·simp [Op.bytesLess,zQV x y h]
theorem zDD (a b:ByteArray):slt b (a++nul)=!slt a b:=by
 cases h:slt b (a++nul) with
 | true=>
  have:slt a b=false:=zQV a.toList b.toList (by have:=h;unfold slt at this;rw [toList_append,zEU] at this;exact this);simp [this]
 | false=>
  rcases zCY a b with k | k | k
  ·simp [k]
  ·subst k;rw [zEj] at h;cases h
  ·rw [zAv k (zEj a)] at h;cases h
theorem zKx {α:Type} (p:α→Bool) (l:List α) (k:Nat) (h:k<l.length):(l.take (k+1)).all p=((l.take k).all p&&p l[k]):=by
 rw [List.take_succ_eq_append_getElem h,List.all_append];simp
theorem zK0 {α:Type} (p:α→Bool) (l:List α) (k:Nat) (h:k<l.length):(l.take (k+1)).any p=((l.take k).any p||p l[k]):=by
 rw [List.take_succ_eq_append_getElem h,List.any_append];simp
theorem zCu {α:Type} (p:α→Bool) (l:List α) (k:Nat) (h:k<l.length) (hp:p l[k]=false):l.all p=false:=by
 rw [List.all_eq_false];exact ⟨l[k],List.getElem_mem h,by simp [hp]⟩
theorem zNL {α:Type} (p:α→Bool) (l:List α) (k:Nat) (h:k<l.length) (hp:p l[k]=true):l.any p=true:=
 List.any_eq_true.2 ⟨l[k],List.getElem_mem h,hp⟩
theorem zNn {α:Type} {p:α→Bool} {l:List α} {k:Nat} (h:l.length≤k) (ha:(l.take k).all p=true):l.all p=true:=by
 rwa [List.take_of_length_le h] at ha
