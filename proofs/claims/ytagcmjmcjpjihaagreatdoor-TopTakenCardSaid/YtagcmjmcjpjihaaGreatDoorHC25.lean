/- Texts Row1, Row2, Row3, KeyLaw, Words, Nat of this claim, laid together. -/
import Derived.Test.YtagcmjmcjpjihaaGreatDoorHC9
import Derived.Test.YtagcmjmcjpjihaaGreatDoorHC23
import Derived.Test.YtagcmjmcjpjihaaGreatDoorHC1
set_option linter.unusedVariables false
set_option linter.unusedSimpArgs false
set_option maxHeartbeats 8000000
set_option maxRecDepth 100000
namespace Go.Proofs.YtagcmjmcjpjihaaGreatDoor
open Go.RowKit
def OkAt (i:Nat) (c:UInt8):Prop:=(97≤c.toNat∧c.toNat≤122)∨(0<i∧48≤c.toNat∧c.toNat≤57)
instance (i:Nat) (c:UInt8):Decidable (OkAt i c):=by unfold OkAt;infer_instance
def zAN (s:ByteArray):Prop:=1≤s.size∧s.size≤6∧∀i (h:i<s.size),OkAt i s[i]
instance (s:ByteArray):Decidable (zAN s):=by unfold zAN;infer_instance
theorem zDN (s:ByteArray) (w:World) (hs:s.size≤4000000000):Calls Tryz.prog 173 #[.string s] w fun e w'=>e=.returned (.bool (decide (zAN s)))∧w'=w:=by
 go_enter Tryz.func173,Tryz.ntmps173;go_wp2;go_loop [6] (fun i=>∃k:Nat,k≤s.size∧i=.int .i64 k∧Hid (∀i (h:i<s.size),i<k→OkAt i s[i])) (fun i=>s.size-(intOf i).toNat)
 case atStart=>exact ⟨0,by omega,rfl,Lib.hid (fun i _ h=>by omega)⟩
 case round=>
  obtain ⟨k,hk,rfl,HK⟩:=hrel;by_cases hlt:k<s.size
  ·rcases Nat.eq_zero_or_pos k with rfl | hk0
   ·go_wp2;all_goals first
     | (go_ret;refine ⟨retB (decide_eq_false (fun hn=>?_)).symm,rfl⟩;have:=hn.2.2 0 hlt;unfold OkAt at this;omega)
     | (refine ⟨⟨1, by omega, by go_num, Lib.hid (fun i hi h => ?_)⟩, by simp [intOf]; omega⟩; obtain rfl : i = 0 := by omega
        unfold OkAt;omega)
   ·have hk1:((k:Int)==0)=false:=by simp;omega
    go_wp2;all_goals first
     | (go_ret;refine ⟨retB (decide_eq_false (fun hn=>?_)).symm,rfl⟩;have:=hn.2.2 k hlt;unfold OkAt at this;omega)
     | (refine ⟨⟨k + 1, by omega, by go_num, Lib.hid (fun i hi h => ?_)⟩, by simp [intOf]; omega⟩; rcases Nat.lt_or_ge i k with h2 | h2
        ·exact HK.out i hi h2
        ·obtain rfl:i=k:=by omega
         unfold OkAt;omega)
  ·have hall:∀i (h:i<s.size),OkAt i s[i]:=fun i h=>HK.out i h (by omega)
   have hsz:s.toList.length=s.size:=by rw [ByteArray.toList_eq];rfl
   have hN:decide (zAN s)=(decide (1≤s.size)&&decide (s.size≤6)):=by
    rw [Bool.eq_iff_iff,Bool.and_eq_true,decide_eq_true_eq,decide_eq_true_eq,decide_eq_true_eq];exact ⟨fun h=>⟨h.1,h.2.1⟩,fun h=>⟨h.1,h.2,hall⟩⟩
   clear hall;go_wp2
   ·rename_i h _;have:s.size=0:=by rw [←hsz,h];rfl
    go_ret;exact ⟨retB (by simp [this]),rfl⟩
   ·rename_i h _;have:1≤s.size:=by
     rw [←hsz];cases hl:s.toList with
     | nil=>exact absurd hl h
     | cons _ _=>simp
    go_ret;exact ⟨retB (by rw [decide_eq_true (p:=1≤s.size) this,Bool.true_and,show s.toList.isEmpty=false from by simpa using h,Bool.not_false,Bool.true_and,Bool.eq_iff_iff,decide_eq_true_eq,decide_eq_true_eq];omega),rfl⟩
theorem zHd (s:ByteArray) (w:World) (hs:s.size≤4000000000):Calls Tryz.prog 138 #[.string s] w fun e w'=>e=.returned (.bool (decide (zAN s)))∧w'=w:=by
 by_cases hsz:1≤s.size∧s.size≤6
 ·have h0:0<s.size:=by omega
  by_cases hf:97≤s[0].toNat∧s[0].toNat≤122
  ·go_enter Tryz.func138,Tryz.ntmps138;go_wp2;all_goals (try (exfalso;omega));go_loop [3] (fun i=>∃k:Nat,k≤s.size∧i=.int .i64 k∧Hid (∀i (h:i<s.size),i<k→OkAt i s[i])) (fun i=>s.size-(intOf i).toNat)
   case atStart=>exact ⟨0,by omega,rfl,Lib.hid (fun i _ h=>by omega)⟩
   case round=>
    obtain ⟨k,hk,rfl,HK⟩:=hrel;by_cases hlt:k<s.size
    ·rcases Nat.eq_zero_or_pos k with rfl | hk0
     ·go_wp2;all_goals first
       | (exfalso;omega)
       | (refine ⟨⟨1, by omega, by go_num, Lib.hid (fun i hi h => ?_)⟩, by simp [intOf]; omega⟩; obtain rfl : i = 0 := by omega
          unfold OkAt;omega)
     ·go_wp2;all_goals (try simp only [Bool.not_eq_true',Bool.not_eq_false',decide_eq_true_eq,decide_eq_false_iff_not] at *);all_goals first
       | (go_ret;refine ⟨retB (decide_eq_false (fun hn=>?_)).symm,rfl⟩;have:=hn.2.2 k hlt;unfold OkAt at this;omega)
       | (refine ⟨⟨k + 1, by omega, by go_num, Lib.hid (fun i hi h => ?_)⟩, by simp [intOf]; omega⟩; rcases Nat.lt_or_ge i k with h2 | h2
          ·exact HK.out i hi h2
          ·obtain rfl:i=k:=by omega
           unfold OkAt;omega)
    ·go_wp2;go_ret;exact ⟨retB (decide_eq_true (p:=zAN s) ⟨hsz.1,hsz.2,fun i h=>HK.out i h (by omega)⟩).symm,rfl⟩
  ·have hN:decide (zAN s)=false:=decide_eq_false (fun hn=>by have:=hn.2.2 0 h0;unfold OkAt at this;omega);rw [hN];go_enter Tryz.func138,Tryz.ntmps138;go_wp2;all_goals (first|(exfalso;omega)|(go_ret;exact ⟨rfl,rfl⟩) | skip)
 ·have hN:decide (zAN s)=false:=decide_eq_false (fun hn=>hsz ⟨hn.1,hn.2.1⟩);rw [hN];go_enter Tryz.func138,Tryz.ntmps138;go_wp2;all_goals (first|(exfalso;omega)|(go_ret;exact ⟨rfl,rfl⟩) | skip)
structure LibOk (w:World):Prop where
 max:∃m:Int,w.cell? ⟨0,0,none⟩=some (.int .i64 m)
 syn:∃t p,w.cell? ⟨1,0,none⟩=some (.iface t p)
 rng:∃t p,w.cell? ⟨2,0,none⟩=some (.iface t p)
 tab : Lib.TabIs Tryz.prog w "internal/strconv.uint64pow10" .u64 Lib.pow10Tab
theorem zQr {w w':World} {name:String} {k:IntKind} {zs:List Int} (h:Lib.TabIs Tryz.prog w name k zs) (hx:∀b,b<w.heap.size→w'.heap[b]?=w.heap[b]?):Lib.TabIs Tryz.prog w' name k zs:=by
 unfold Lib.TabIs World.var? at *;cases hg:Tryz.prog.globalNamed name with
 | none=>simp [hg] at h
 | some g=>
  simp only [hg,Option.bind_some] at h ⊢;have hlt:g<w.heap.size:=by
   rcases Nat.lt_or_ge g w.heap.size with h' | h'
   ·exact h'
   ·rw [Array.getElem?_eq_none h'] at h;simp at h
  rw [hx g hlt];exact h
theorem LibOk.ext {w w':World} (h:LibOk w) (hx:Ext w w'):LibOk w':=
 ⟨h.max.imp fun _ h=>hx.some h,h.syn.imp fun _ h=>h.imp fun _ h=>hx.some h,h.rng.imp fun _ h=>h.imp fun _ h=>hx.some h,zQr h.tab hx.block⟩
theorem zRQ (w:World) (k:Nat) (os:Array Obj):Ext w (Go.Sort.grow (w.drewN k) os):=
 ⟨rfl,rfl,rfl,by simp [Go.Sort.grow],fun b hb=>by
  show (w.heap++os)[b]?=_;rw [Array.getElem?_append_left hb]⟩
theorem zP0 (w:World) (k:Nat):Ext w (w.drewN k):=⟨rfl,rfl,rfl,Nat.le_refl _,fun _ _=>rfl⟩
def zAM (n:Int):ByteArray:=⟨(Lib.itoa n).toArray⟩
theorem zDQ (n:Int) (w:World) (h:LibOk w) (h0:-9223372036854775808≤n) (h1:n≤9223372036854775807):Calls Tryz.prog 233 #[.int .i64 n] w fun e w'=>e=.returned (.string (zAM n))∧Ext w w':=
 (Tryz.strconv_Itoa n h0 h1 w h.tab).mono fun e w' ⟨he,k,os,hw⟩=>⟨he,hw ▸ zRQ w k os⟩
def cutB (s sep:ByteArray):ByteArray×ByteArray×Bool:=(⟨(Lib.cut s.data.toList sep.data.toList).1.toArray⟩,⟨(Lib.cut s.data.toList sep.data.toList).2.1.toArray⟩,(Lib.cut s.data.toList sep.data.toList).2.2)
theorem zOZ (s sep:ByteArray) (w:World) (h:LibOk w) (hs:s.size<4294967281):Calls Tryz.prog 193 #[.string s,.string sep] w fun e w'=>e=.returned (.tuple #[.string (cutB s sep).1,.string (cutB s sep).2.1,.bool (cutB s sep).2.2])∧Ext w w':=by
 obtain ⟨m,hm⟩:=h.max;exact (Tryz.strings_Cut s sep m w hs hm).mono fun e w' ⟨he,n,hw⟩=>⟨he,hw ▸ zP0 w n⟩
def zCr (s:ByteArray):Option Int:=match Lib.atoiAll s.data.toList with | .ok v=>some v | _=>none
theorem zJl (s:ByteArray) (v:Int) (w:World) (hs:s.size≤4000000000) (hv:zCr s=some v):Calls Tryz.prog 194 #[.string s] w fun e w'=>e=.returned (.tuple #[.int .i64 v,.nilIface])∧Ext w w':=by
 have h:Lib.atoiAll s.data.toList=.ok v:=by
  unfold zCr at hv;split at hv
  ·cases hv;assumption
  ·cases hv
 refine (Tryz.strconv_Atoi_ok s (by omega) v h w).mono fun e w' ⟨he,hw⟩=>⟨he,?_⟩
 rcases hw with rfl | ⟨t,rfl⟩
 ·exact Ext.refl _
 ·exact Lib.bytesWorld_below w _ t
theorem zOV (s:ByteArray) (w:World) (h:LibOk w) (hs:s.size≤4000000000) (hv:zCr s=none):Calls Tryz.prog 194 #[.string s] w fun e w'=>(∃x N,e=.returned (.tuple #[.int .i64 x,.iface 344 (.pointer (some ⟨N,0,none⟩))]))∧Ext w w':=by
 rcases hr:Lib.atoiAll s.data.toList with v | _ | _
 ·unfold zCr at hv;rw [hr] at hv;cases hv
 ·obtain ⟨t,p,hc⟩:=h.syn;exact (Tryz.strconv_Atoi_syntax s (by omega) hr _ w hc (.inr ⟨t,p,rfl⟩)).mono fun e w' ⟨N,he,_,_,hb⟩=>⟨⟨_,N,he⟩,hb⟩
 ·obtain ⟨t,p,hc⟩:=h.rng;exact (Tryz.strconv_Atoi_range s (by omega) hr _ w hc (.inr ⟨t,p,rfl⟩)).mono fun e w' ⟨N,he,_,_,hb⟩=>⟨⟨_,N,he⟩,hb⟩
def six (n:Nat):ByteArray:=⟨(esix (n % 1000000)).toArray⟩
theorem zOr (m:Nat) (h:m<1000000):(zAM (1000000+m)).extract 1 (zAM (1000000+m)).size=⟨(esix m).toArray⟩∧(zAM (1000000+m)).size=7:=by
 have e:zAM (1000000+m)=⟨(49::esix m).toArray⟩:=by
  unfold zAM;rw [show ((1000000:Int)+(m:Int))=((1000000+m:Nat):Int) from rfl,Lib.itoa_nonneg,dec7 m h]
 rw [e];refine ⟨?_,rfl⟩;apply ByteArray.ext;rfl
theorem zOS (n:Nat) (w:World) (h:LibOk w) (hn:n≤9223372036854775807):Calls Tryz.prog 195 #[.int .i64 n] w fun e w'=>e=.returned (.string (six n))∧Ext w w':=by
 have hm:n % 1000000<1000000:=Nat.mod_lt _ (by decide);obtain ⟨e1,e2⟩:=zOr (n % 1000000) hm;have hi:∀w,LibOk w→Calls Tryz.prog 233 #[.int .i64 (1000000+(n:Int) % 1000000)] w fun e w'=>e=.returned (.string (zAM (1000000+((n % 1000000:Nat):Int))))∧Ext w w':=fun w h=>by
  have:=zDQ (1000000+((n % 1000000:Nat):Int)) w h (by omega) (by omega)
  rwa [Int.natCast_emod] at this ⊢
 generalize zAM (1000000+((n % 1000000:Nat):Int))=x at *;go_enter Tryz.func195,Tryz.ntmps195;go_wp2_with (go_at_call 233;refine (hi _ h).mono ?_;rintro e w' ⟨rfl,hx⟩;dsimp only);rw [e2] at e1;go_ret;exact ⟨by rw [e1];rfl,hx⟩
theorem zIO (n:Nat):(six n).size=6:=rfl
def tB:ByteArray:=⟨#[116]⟩
def qB:ByteArray:=⟨#[113]⟩
def mB:ByteArray:=⟨#[109]⟩
def slash:ByteArray:=⟨#[47]⟩
theorem zAB (a b:ByteArray):(a++b).data.toList=a.data.toList++b.data.toList:=by
 rw [ByteArray.data_append,Array.toList_append]
theorem zAS {a b:ByteArray} (h:a.data.toList=b.data.toList):a=b:=ByteArray.ext (Array.ext' h)
theorem zDz (a b:ByteArray) (h:(47:UInt8)∉a.data.toList):cutB (a++slash++b) slash=(a,b,true):=by
 unfold cutB;have e:(a++slash++b).data.toList=a.data.toList++47::b.data.toList:=by
  rw [zAB,zAB,List.append_assoc];rfl
 rw [e,show slash.data.toList=[47] from rfl,zGy 47 _ _ h]
theorem zGb (s:ByteArray):(∃a b:ByteArray,s=a++slash++b∧(47:UInt8)∉a.data.toList∧cutB s slash=(a,b,true))∨cutB s slash=(s,⟨#[]⟩,false):=by
 rcases zR7 47 s.data.toList with ⟨a,b,h1,h2,h3⟩ | ⟨h1,h2⟩
 ·refine .inl ⟨⟨a.toArray⟩,⟨b.toArray⟩,?_,by simpa using h2,?_⟩
  ·apply zAS;rw [zAB,zAB,h1,List.append_assoc];rfl
  ·unfold cutB;rw [show slash.data.toList=[47] from rfl,h3]
 ·refine .inr ?_;unfold cutB;rw [show slash.data.toList=[47] from rfl,h2]
def KeyOk (k:ByteArray):Prop:=(∃a,zAN a∧(k=tB++slash++a∨k=qB++slash++a))∨∃q n,zAN q∧n<1000000∧k=mB++slash++(q++slash++six n)
theorem zEr {a:ByteArray} (h:zAN a):(47:UInt8)∉a.data.toList:=fun hm=>by
 obtain ⟨i,hi,he⟩:=List.getElem_of_mem hm;have:=h.2.2 i (by simpa using hi);have e:a[i]'(by simpa using hi)=47:=by
  rw [←he];rfl
 rw [e] at this;unfold OkAt at this;rw [show UInt8.toNat 47=47 from rfl] at this;omega
theorem zGZ (k:ByteArray):KeyOk k↔(cutB k slash).2.2=true∧((((cutB k slash).1=tB∨(cutB k slash).1=qB)∧zAN (cutB k slash).2.1)∨
 ((cutB k slash).1=mB∧(cutB (cutB k slash).2.1 slash).2.2=true∧zAN (cutB (cutB k slash).2.1 slash).1∧∃n,n<1000000∧(cutB (cutB k slash).2.1 slash).2.1=six n)):=by
 constructor
 ·rintro (⟨a,ha,rfl | rfl⟩ | ⟨q,n,hq,hn,rfl⟩)
  ·rw [zDz tB a (by decide)];exact ⟨rfl,.inl ⟨.inl rfl,ha⟩⟩
  ·rw [zDz qB a (by decide)];exact ⟨rfl,.inl ⟨.inr rfl,ha⟩⟩
  ·rw [zDz mB _ (by decide)];dsimp only;rw [zDz q _ (zEr hq)];exact ⟨rfl,.inr ⟨rfl,rfl,hq,n,hn,rfl⟩⟩
 ·rintro ⟨h1,h2⟩;rcases zGb k with ⟨a,b,hk,ha,hc⟩ | hc
  ·rw [hc] at h1 h2;dsimp only at h1 h2;rcases h2 with ⟨rfl | rfl,hb⟩ | ⟨rfl,h3,h4,n,hn,h5⟩
   ·exact .inl ⟨b,hb,.inl hk⟩
   ·exact .inl ⟨b,hb,.inr hk⟩
   ·rcases zGb b with ⟨q,m,hb,hq,hc2⟩ | hc2
    ·rw [hc2] at h3 h4 h5;dsimp only at h3 h4 h5;subst h5;exact .inr ⟨q,n,h4,hn,by rw [hk,hb]⟩
    ·rw [hc2] at h3;cases h3
  ·rw [hc] at h1;cases h1
open Classical in
noncomputable def keyN (k:ByteArray):Nat:=if KeyOk k then 0 else 3
theorem zCc {k:ByteArray} (h:KeyOk k):keyN k=0:=if_pos h
theorem zA6 {k:ByteArray} (h:¬KeyOk k):keyN k=3:=if_neg h
theorem zJn {a:ByteArray} {l:List UInt8} (h:(a.toList==l)=true):a=⟨l.toArray⟩:=by
 apply zAS;rw [ByteArray.toList_eq] at h;simpa using h
theorem zJ1 {a:ByteArray} {l:List UInt8} (h:(a.toList==l)=false):a≠⟨l.toArray⟩:=fun e=>by
 rw [e,ByteArray.toList_eq] at h;simp at h
theorem zKa (s:ByteArray):(cutB s slash).1.size≤s.size∧(cutB s slash).2.1.size≤s.size:=by
 rcases zGb s with ⟨a,b,h1,_,h2⟩ | h
 ·rw [h2,h1,ByteArray.size_append,ByteArray.size_append];dsimp only;omega
 ·rw [h];exact ⟨Nat.le_refl _,Nat.zero_le _⟩
theorem zF8 (n:Nat) (h:n<1000000):zCr (six n)=some (n:Int):=by
 unfold zCr;have e:Lib.atoiAll (six n).data.toList=.ok (n:Int):=by
  show Lib.atoiAll (esix (n % 1000000))=_;rw [Nat.mod_eq_of_lt h];exact zRk n h
 rw [e]
theorem zL2 {s:ByteArray} {v:Int} (h:zCr s=some v):v≤9223372036854775807:=by
 unfold zCr at h;split at h
 ·cases h;rename_i h;exact (Lib.atoiAll_bounds h).2
 ·cases h
theorem zTB (n:Nat):six (n % 1000000)=six n:=by unfold six;rw [Nat.mod_mod]
theorem zEo {a b:ByteArray} (h:a≠b):(a.toList==b.toList)=false:=by
 cases h2:(a.toList==b.toList) with
 | false=>rfl
 | true=>
  exfalso;apply h;rw [ByteArray.toList_eq,ByteArray.toList_eq] at h2;exact zAS (by simpa using h2)
theorem zGW (k:ByteArray) (w:World) (h:LibOk w) (hs:k.size≤4000000000):Calls Tryz.prog 111 #[.string k] w fun e w'=>e=.returned (errV (keyN k))∧Ext w w':=by
 have hx:Ext w w:=Ext.refl w;have hK:=zGZ k;have HC1:=fun w h=>zOZ k slash w h (by omega)
 have hb2:(cutB k slash).2.1.size≤4000000000:=by have:=(zKa k).2;omega
 generalize cutB k slash=c at *;obtain ⟨a,b,ok⟩:=c;dsimp only at *;rw [show slash=⟨#[47]⟩ from rfl] at HC1;have HN1:=fun w=>zDN b w (by omega)
 cases ok with
 | false=>
  rw [zA6 (fun hk=>by have:=(hK.1 hk).1;cases this),show errV 3=.iface 124 (.int .i64 3) from rfl];clear hK;go_enter Tryz.func111,Tryz.ntmps111;go_wp2_with (first|(go_at_call 193;(with_reducible apply Calls.mono (HC1 _ h);rintro e8 w8 ⟨rfl,hx8⟩;replace h:=h.ext hx8;replace hx:=hx.trans hx8;clear hx8;dsimp only)));go_ret;exact ⟨rfl,hx⟩
 | true=>
  have hK2:KeyOk k↔((a=tB∨a=qB)∧zAN b∨a=mB∧(cutB b slash).2.2=true∧zAN (cutB b slash).1∧∃n,n<1000000∧(cutB b slash).2.1=six n):=hK.trans ⟨fun h=>h.2,fun h=>⟨rfl,h⟩⟩;clear hK;cases ht:(a.toList==[116]) with
  | true=>
   have:a=tB:=zJn ht;have hK3:KeyOk k↔zAN b:=hK2.trans ⟨fun h=>h.elim And.right (fun h=>by rw [this] at h;exact absurd h.1 (by decide)),fun h=>.inl ⟨.inl this,h⟩⟩;clear hK2 this;by_cases hN:zAN b
   ·rw [zCc (hK3.2 hN),show errV 0=.nilIface from rfl];rw [decide_eq_true hN] at HN1;clear hK3 hN;go_enter Tryz.func111,Tryz.ntmps111;go_wp2_with (first|(go_at_call 193;(with_reducible apply Calls.mono (HC1 _ h);rintro e8 w8 ⟨rfl,hx8⟩;replace h:=h.ext hx8;replace hx:=hx.trans hx8;clear hx8;dsimp only))|(go_at_call 173;(with_reducible apply Calls.mono (HN1 _);rintro e8 w8 ⟨rfl,rfl⟩;dsimp only)));go_ret;exact ⟨rfl,hx⟩
   ·rw [zA6 (fun h=>hN (hK3.1 h)),show errV 3=.iface 124 (.int .i64 3) from rfl];rw [decide_eq_false hN] at HN1;clear hK3 hN;go_enter Tryz.func111,Tryz.ntmps111;go_wp2_with (first|(go_at_call 193;(with_reducible apply Calls.mono (HC1 _ h);rintro e8 w8 ⟨rfl,hx8⟩;replace h:=h.ext hx8;replace hx:=hx.trans hx8;clear hx8;dsimp only))|(go_at_call 173;(with_reducible apply Calls.mono (HN1 _);rintro e8 w8 ⟨rfl,rfl⟩;dsimp only)));go_ret;exact ⟨rfl,hx⟩
  | false=>
   cases hq:(a.toList==[113]) with
   | true=>
    have:a=qB:=zJn hq;have hK3:KeyOk k↔zAN b:=hK2.trans ⟨fun h=>h.elim And.right (fun h=>by rw [this] at h;exact absurd h.1 (by decide)),fun h=>.inl ⟨.inr this,h⟩⟩;clear hK2 this;by_cases hN:zAN b
    ·rw [zCc (hK3.2 hN),show errV 0=.nilIface from rfl];rw [decide_eq_true hN] at HN1;clear hK3 hN;go_enter Tryz.func111,Tryz.ntmps111;go_wp2_with (first|(go_at_call 193;(with_reducible apply Calls.mono (HC1 _ h);rintro e8 w8 ⟨rfl,hx8⟩;replace h:=h.ext hx8;replace hx:=hx.trans hx8;clear hx8;dsimp only))|(go_at_call 173;(with_reducible apply Calls.mono (HN1 _);rintro e8 w8 ⟨rfl,rfl⟩;dsimp only)));go_ret;exact ⟨rfl,hx⟩
    ·rw [zA6 (fun h=>hN (hK3.1 h)),show errV 3=.iface 124 (.int .i64 3) from rfl];rw [decide_eq_false hN] at HN1;clear hK3 hN;go_enter Tryz.func111,Tryz.ntmps111;go_wp2_with (first|(go_at_call 193;(with_reducible apply Calls.mono (HC1 _ h);rintro e8 w8 ⟨rfl,hx8⟩;replace h:=h.ext hx8;replace hx:=hx.trans hx8;clear hx8;dsimp only))|(go_at_call 173;(with_reducible apply Calls.mono (HN1 _);rintro e8 w8 ⟨rfl,rfl⟩;dsimp only)));go_ret;exact ⟨rfl,hx⟩
   | false=>
    cases hm:(a.toList==[109]) with
    | false=>
     rw [zA6 (fun h=>(hK2.1 h).elim (fun h=>h.1.elim (zJ1 ht) (zJ1 hq)) (fun h=>zJ1 hm h.1)),show errV 3=.iface 124 (.int .i64 3) from rfl];clear hK2;go_enter Tryz.func111,Tryz.ntmps111;go_wp2_with (first|(go_at_call 193;(with_reducible apply Calls.mono (HC1 _ h);rintro e8 w8 ⟨rfl,hx8⟩;replace h:=h.ext hx8;replace hx:=hx.trans hx8;clear hx8;dsimp only)));go_ret;exact ⟨rfl,hx⟩
    | true=>
     have:a=mB:=zJn hm;have hK3:KeyOk k↔((cutB b slash).2.2=true∧zAN (cutB b slash).1∧∃n,n<1000000∧(cutB b slash).2.1=six n):=hK2.trans ⟨fun h=>h.elim (fun h=>by rw [this] at h;exact absurd h.1 (by decide)) And.right,fun h=>.inr ⟨this,h⟩⟩;clear hK2 this HN1;have HC2:=fun w h=>zOZ b slash w h (by omega)
     have hb3:(cutB b slash).2.1.size≤4000000000∧(cutB b slash).1.size≤4000000000:=by have:=zKa b;omega
     generalize cutB b slash=c2 at *;obtain ⟨q,n,is⟩:=c2;dsimp only at *;rw [show slash=⟨#[47]⟩ from rfl] at HC2;have HN1:=fun w=>zDN q w (by omega)
     cases hA:zCr n with
     | none=>
      rw [zA6 (fun h=>by obtain ⟨_,_,m,hm,rfl⟩:=hK3.1 h;rw [zF8 m hm] at hA;cases hA),show errV 3=.iface 124 (.int .i64 3) from rfl];have HA:=fun w h=>zOV n w h (by omega) hA
      clear hK3;cases is with
      | false=>
       go_enter Tryz.func111,Tryz.ntmps111;go_wp2_with (first|(go_at_call 193;(with_reducible apply Calls.mono (HC1 _ h);rintro e8 w8 ⟨rfl,hx8⟩;replace h:=h.ext hx8;replace hx:=hx.trans hx8;clear hx8;dsimp only))|(go_at_call 193;(with_reducible apply Calls.mono (HC2 _ h);rintro e8 w8 ⟨rfl,hx8⟩;replace h:=h.ext hx8;replace hx:=hx.trans hx8;clear hx8;dsimp only))|(go_at_call 194;(with_reducible apply Calls.mono (HA _ h);rintro e8 w8 ⟨⟨x8,N8,rfl⟩,hx8⟩;replace h:=h.ext hx8;replace hx:=hx.trans hx8;clear hx8;dsimp only)));go_ret;exact ⟨rfl,hx⟩
      | true=>
       by_cases hN:zAN q
       ·rw [decide_eq_true hN] at HN1;clear hN;go_enter Tryz.func111,Tryz.ntmps111;go_wp2_with (first|(go_at_call 193;(with_reducible apply Calls.mono (HC1 _ h);rintro e8 w8 ⟨rfl,hx8⟩;replace h:=h.ext hx8;replace hx:=hx.trans hx8;clear hx8;dsimp only))|(go_at_call 193;(with_reducible apply Calls.mono (HC2 _ h);rintro e8 w8 ⟨rfl,hx8⟩;replace h:=h.ext hx8;replace hx:=hx.trans hx8;clear hx8;dsimp only))|(go_at_call 194;(with_reducible apply Calls.mono (HA _ h);rintro e8 w8 ⟨⟨x8,N8,rfl⟩,hx8⟩;replace h:=h.ext hx8;replace hx:=hx.trans hx8;clear hx8;dsimp only))|(go_at_call 173;(with_reducible apply Calls.mono (HN1 _);rintro e8 w8 ⟨rfl,rfl⟩;dsimp only)));go_ret;exact ⟨rfl,hx⟩
       ·rw [decide_eq_false hN] at HN1;clear hN;go_enter Tryz.func111,Tryz.ntmps111;go_wp2_with (first|(go_at_call 193;(with_reducible apply Calls.mono (HC1 _ h);rintro e8 w8 ⟨rfl,hx8⟩;replace h:=h.ext hx8;replace hx:=hx.trans hx8;clear hx8;dsimp only))|(go_at_call 193;(with_reducible apply Calls.mono (HC2 _ h);rintro e8 w8 ⟨rfl,hx8⟩;replace h:=h.ext hx8;replace hx:=hx.trans hx8;clear hx8;dsimp only))|(go_at_call 194;(with_reducible apply Calls.mono (HA _ h);rintro e8 w8 ⟨⟨x8,N8,rfl⟩,hx8⟩;replace h:=h.ext hx8;replace hx:=hx.trans hx8;clear hx8;dsimp only))|(go_at_call 173;(with_reducible apply Calls.mono (HN1 _);rintro e8 w8 ⟨rfl,rfl⟩;dsimp only)));go_ret;exact ⟨rfl,hx⟩
     | some v=>
      have HA:=fun w (h:LibOk w)=>zJl n v w (by omega) hA
      have hvb:=zL2 hA;cases is with
      | false=>
       rw [zA6 (fun h=>by have:=(hK3.1 h).1;cases this),show errV 3=.iface 124 (.int .i64 3) from rfl];clear hK3;go_enter Tryz.func111,Tryz.ntmps111;go_wp2_with (first|(go_at_call 193;(with_reducible apply Calls.mono (HC1 _ h);rintro e8 w8 ⟨rfl,hx8⟩;replace h:=h.ext hx8;replace hx:=hx.trans hx8;clear hx8;dsimp only))|(go_at_call 193;(with_reducible apply Calls.mono (HC2 _ h);rintro e8 w8 ⟨rfl,hx8⟩;replace h:=h.ext hx8;replace hx:=hx.trans hx8;clear hx8;dsimp only))|(go_at_call 194;(with_reducible apply Calls.mono (HA _ h);rintro e8 w8 ⟨rfl,hx8⟩;replace h:=h.ext hx8;replace hx:=hx.trans hx8;clear hx8;dsimp only)));go_ret;exact ⟨rfl,hx⟩
      | true=>
       by_cases hN:zAN q
       ·have hK4:KeyOk k↔∃m,m<1000000∧n=six m:=hK3.trans ⟨fun h=>h.2.2,fun h=>⟨rfl,hN,h⟩⟩;clear hK3;rw [decide_eq_true hN] at HN1;by_cases hv:0≤v
        ·obtain ⟨m,rfl⟩:=Int.eq_ofNat_of_zero_le hv;have HS:=fun w h=>zOS m w h (by omega)
         by_cases h6:n.size=6
         ·have h6':((n.size:Int)==6)=true:=by rw [h6];rfl
          by_cases hs:six m=n
          ·rw [zCc (hK4.2 ⟨m % 1000000,Nat.mod_lt _ (by decide),by rw [zTB,hs]⟩),show errV 0=.nilIface from rfl];rw [hs] at HS;clear hK4 hN hv h6;go_enter Tryz.func111,Tryz.ntmps111;go_wp2_with (first|(go_at_call 193;(with_reducible apply Calls.mono (HC1 _ h);rintro e8 w8 ⟨rfl,hx8⟩;replace h:=h.ext hx8;replace hx:=hx.trans hx8;clear hx8;dsimp only))|(go_at_call 193;(with_reducible apply Calls.mono (HC2 _ h);rintro e8 w8 ⟨rfl,hx8⟩;replace h:=h.ext hx8;replace hx:=hx.trans hx8;clear hx8;dsimp only))|(go_at_call 194;(with_reducible apply Calls.mono (HA _ h);rintro e8 w8 ⟨rfl,hx8⟩;replace h:=h.ext hx8;replace hx:=hx.trans hx8;clear hx8;dsimp only))|(go_at_call 173;(with_reducible apply Calls.mono (HN1 _);rintro e8 w8 ⟨rfl,rfl⟩;dsimp only))|(go_at_call 195;(with_reducible apply Calls.mono (HS _ h);rintro e8 w8 ⟨rfl,hx8⟩;replace h:=h.ext hx8;replace hx:=hx.trans hx8;clear hx8;dsimp only)));go_ret;exact ⟨rfl,hx⟩
          ·rw [zA6 (fun h=>by
            obtain ⟨m',hm',rfl⟩:=hK4.1 h;rw [zF8 m' hm'] at hA;injection hA with hA
            exact hs (by rw [show m=m' from by omega])),show errV 3=.iface 124 (.int .i64 3) from rfl]
           have hs2:=zEo hs;generalize six m=y at *;clear hK4 hN hv h6 hs;go_enter Tryz.func111,Tryz.ntmps111;go_wp2_with (first|(go_at_call 193;(with_reducible apply Calls.mono (HC1 _ h);rintro e8 w8 ⟨rfl,hx8⟩;replace h:=h.ext hx8;replace hx:=hx.trans hx8;clear hx8;dsimp only))|(go_at_call 193;(with_reducible apply Calls.mono (HC2 _ h);rintro e8 w8 ⟨rfl,hx8⟩;replace h:=h.ext hx8;replace hx:=hx.trans hx8;clear hx8;dsimp only))|(go_at_call 194;(with_reducible apply Calls.mono (HA _ h);rintro e8 w8 ⟨rfl,hx8⟩;replace h:=h.ext hx8;replace hx:=hx.trans hx8;clear hx8;dsimp only))|(go_at_call 173;(with_reducible apply Calls.mono (HN1 _);rintro e8 w8 ⟨rfl,rfl⟩;dsimp only))|(go_at_call 195;(with_reducible apply Calls.mono (HS _ h);rintro e8 w8 ⟨rfl,hx8⟩;replace h:=h.ext hx8;replace hx:=hx.trans hx8;clear hx8;dsimp only)));all_goals (go_ret;exact ⟨rfl,hx⟩)
         ·have h6':((n.size:Int)==6)=false:=by simp;omega
          rw [zA6 (fun h=>by obtain ⟨m',_,rfl⟩:=hK4.1 h;exact h6 rfl),show errV 3=.iface 124 (.int .i64 3) from rfl];clear hK4 hN hv h6;go_enter Tryz.func111,Tryz.ntmps111;go_wp2_with (first|(go_at_call 193;(with_reducible apply Calls.mono (HC1 _ h);rintro e8 w8 ⟨rfl,hx8⟩;replace h:=h.ext hx8;replace hx:=hx.trans hx8;clear hx8;dsimp only))|(go_at_call 193;(with_reducible apply Calls.mono (HC2 _ h);rintro e8 w8 ⟨rfl,hx8⟩;replace h:=h.ext hx8;replace hx:=hx.trans hx8;clear hx8;dsimp only))|(go_at_call 194;(with_reducible apply Calls.mono (HA _ h);rintro e8 w8 ⟨rfl,hx8⟩;replace h:=h.ext hx8;replace hx:=hx.trans hx8;clear hx8;dsimp only))|(go_at_call 173;(with_reducible apply Calls.mono (HN1 _);rintro e8 w8 ⟨rfl,rfl⟩;dsimp only)));all_goals (go_ret;exact ⟨rfl,hx⟩)
        ·rw [zA6 (fun h=>by obtain ⟨m',hm',rfl⟩:=hK4.1 h;rw [zF8 m' hm'] at hA;injection hA with hA;omega),show errV 3=.iface 124 (.int .i64 3) from rfl];clear hK4 hN;go_enter Tryz.func111,Tryz.ntmps111;go_wp2_with (first|(go_at_call 193;(with_reducible apply Calls.mono (HC1 _ h);rintro e8 w8 ⟨rfl,hx8⟩;replace h:=h.ext hx8;replace hx:=hx.trans hx8;clear hx8;dsimp only))|(go_at_call 193;(with_reducible apply Calls.mono (HC2 _ h);rintro e8 w8 ⟨rfl,hx8⟩;replace h:=h.ext hx8;replace hx:=hx.trans hx8;clear hx8;dsimp only))|(go_at_call 194;(with_reducible apply Calls.mono (HA _ h);rintro e8 w8 ⟨rfl,hx8⟩;replace h:=h.ext hx8;replace hx:=hx.trans hx8;clear hx8;dsimp only))|(go_at_call 173;(with_reducible apply Calls.mono (HN1 _);rintro e8 w8 ⟨rfl,rfl⟩;dsimp only)));all_goals (go_ret;exact ⟨rfl,hx⟩)
       ·rw [zA6 (fun h=>hN (hK3.1 h).2.1),show errV 3=.iface 124 (.int .i64 3) from rfl];rw [decide_eq_false hN] at HN1;clear hK3 hN;go_enter Tryz.func111,Tryz.ntmps111;go_wp2_with (first|(go_at_call 193;(with_reducible apply Calls.mono (HC1 _ h);rintro e8 w8 ⟨rfl,hx8⟩;replace h:=h.ext hx8;replace hx:=hx.trans hx8;clear hx8;dsimp only))|(go_at_call 193;(with_reducible apply Calls.mono (HC2 _ h);rintro e8 w8 ⟨rfl,hx8⟩;replace h:=h.ext hx8;replace hx:=hx.trans hx8;clear hx8;dsimp only))|(go_at_call 194;(with_reducible apply Calls.mono (HA _ h);rintro e8 w8 ⟨rfl,hx8⟩;replace h:=h.ext hx8;replace hx:=hx.trans hx8;clear hx8;dsimp only))|(go_at_call 173;(with_reducible apply Calls.mono (HN1 _);rintro e8 w8 ⟨rfl,rfl⟩;dsimp only)));go_ret;exact ⟨rfl,hx⟩
theorem zGO (b:List UInt8):∀(a:List UInt8) (acc u:Nat),Lib.parseUint10 acc a=.ok u→Lib.parseUint10 acc (a++b)=Lib.parseUint10 u b
 | [],acc,u,h=>by
  simp only [Lib.parseUint10] at h;injection h with h
  subst h;rfl
 | c::r,acc,u,h=>by
  rw [List.cons_append];simp only [Lib.parseUint10] at h ⊢;split at h
  ·split at h
   ·cases h
   ·split at h
    ·cases h
    ·rename_i h1 h2 h3;rw [if_pos h1,if_neg h2,if_neg h3];exact zGO b r _ u h
  ·cases h
theorem zPo (n:Nat) (h:n<100000000000000000):Lib.parseUint10 0 (Lib.decDigits n)=.ok n:=by
 induction n using Nat.strongRecOn with
 | ind n ih=>
  by_cases h10:n<10
  ·rw [zD3 n h10,zB1 0 n [] h10 (by omega),Nat.zero_mul,Nat.zero_add];rfl
  ·rw [zCB n h10,zGO _ _ _ _ (ih (n / 10) (by omega) (by omega)),zB1 _ _ _ (by omega) (by omega)];simp only [Lib.parseUint10]
   congr 1;omega
theorem zOO (n:Nat):∀c∈Lib.decDigits n,48≤c.toNat∧c.toNat≤57:=by
 induction n using Nat.strongRecOn with
 | ind n ih=>
  intro c hc;by_cases h10:n<10
  ·rw [zD3 n h10,List.mem_singleton] at hc;rw [hc,zA2 n h10];omega
  ·rw [zCB n h10,List.mem_append,List.mem_singleton] at hc;rcases hc with hc | hc
   ·exact ih (n / 10) (by omega) c hc
   ·rw [hc,zA2 _ (by omega)];omega
theorem zTm (n:Nat):Lib.decDigits n≠[]:=by
 by_cases h10:n<10
 ·rw [zD3 n h10];simp
 ·rw [zCB n h10];simp
theorem zN9:∀(k n:Nat),n<10 ^ (k+1)→(Lib.decDigits n).length≤k+1
 | 0,n,h=>by rw [zD3 n (by simpa using h)];simp
 | k+1,n,h=>by
  by_cases h10:n<10
  ·rw [zD3 n h10];simp
  ·rw [zCB n h10,List.length_append];have:=zN9 k (n / 10) (by rw [Nat.pow_succ] at h;omega);simp;omega
theorem zC2 (n:Nat):(zAM n).data.toList=Lib.decDigits n:=by unfold zAM;rw [Lib.itoa_nonneg]
theorem zQO (n:Nat) (h:n<100000000000000000):zCr (zAM n)=some (n:Int):=by
 have e:Lib.atoiAll (zAM n).data.toList=.ok (n:Int):=by
  rw [zC2];have hp:=zPo n h;have hm:=zOO n;have hne:=zTm n;generalize Lib.decDigits n=l at *;cases l with
  | nil=>exact absurd rfl hne
  | cons c r=>
   have hc:=hm c (List.mem_cons_self ..);unfold Lib.atoiAll;dsimp only;rw [if_neg (by omega)];unfold Lib.parseMag;rw [if_neg (by simp),hp];dsimp only;rw [if_neg (by omega),if_neg (by omega),if_neg (by omega)]
 unfold zCr;rw [e]
theorem zAR (k n:Nat) (h:n<10 ^ (k+1)):(zAM n).size≤k+1:=by
 have:=zN9 k n h;rw [←zC2] at this;simpa using this
theorem zEW (n:Nat):(32:UInt8)∉(zAM n).data.toList:=fun h=>by
 rw [zC2] at h;have:=(zOO n _ h).1;rw [show UInt8.toNat 32=32 from rfl] at this;omega
theorem zQg {a:ByteArray} (h:zAN a):(32:UInt8)∉a.data.toList:=fun hm=>by
 obtain ⟨i,hi,he⟩:=List.getElem_of_mem hm;have:=h.2.2 i (by simpa using hi);have e:a[i]'(by simpa using hi)=32:=by rw [←he];rfl
 rw [e] at this;unfold OkAt at this;rw [show UInt8.toNat 32=32 from rfl] at this;omega
theorem zEC (n:Nat) (most:Int) (w:World) (h:LibOk w) (hn:(n:Int)≤most) (hm:most≤2000000):Calls Tryz.prog 230 #[.string (zAM n),.int .i64 most] w fun e w'=>e=.returned (.tuple #[.int .i64 n,.bool true])∧Ext w w':=by
 have hs:=zAR 6 n (by omega);have HA:=fun w (h:LibOk w)=>zJl (zAM n) n w (by omega) (zQO n (by omega))
 have HI:=fun w (h:LibOk w)=>zDQ n w h (by omega) (by omega)
 have hx:=Ext.refl w;generalize zAM (n:Int)=s at *;go_enter Tryz.func230,Tryz.ntmps230;go_wp2_with (first|(go_at_call 194;(with_reducible apply Calls.mono (HA _ h);rintro e8 w8 ⟨rfl,hx8⟩;replace h:=h.ext hx8;replace hx:=hx.trans hx8;clear hx8;dsimp only))|(go_at_call 233;(with_reducible apply Calls.mono (HI _ h);rintro e8 w8 ⟨rfl,hx8⟩;replace h:=h.ext hx8;replace hx:=hx.trans hx8;clear hx8;dsimp only)));all_goals first|(exfalso;omega)|(go_ret2;exact ⟨rfl,hx⟩)
def sp:ByteArray:=⟨#[32]⟩
theorem zIe (x r:ByteArray) (h:(32:UInt8)∉x.data.toList):Lib.indexB (x++sp++r) sp=x.size:=by
 unfold Lib.indexB;have e:(x++sp++r).data.toList=x.data.toList++32::r.data.toList:=by rw [zAB,zAB,List.append_assoc];rfl
 rw [e,show sp.data.toList=[32] from rfl,zGc 32 _ _ h];simp
theorem zDE (x:ByteArray) (h:(32:UInt8)∉x.data.toList):Lib.indexB x sp=-1:=by
 unfold Lib.indexB;rw [show sp.data.toList=[32] from rfl,zFW 32 _ h]
theorem zCK (x r:ByteArray) (k:Nat) (h:(32:UInt8)∉x.data.toList):Lib.splitB sp 0 (k+1) (x++sp++r)=x::Lib.splitB sp 0 k r:=by
 rw [Lib.splitB_hit sp 0 k _ _ (zIe x r h)];have e:(x++sp++r).data.toList=x.data.toList++32::r.data.toList:=by rw [zAB,zAB,List.append_assoc];rfl
 have e1:(x++sp++r).extract 0 (x.size+0)=x:=zAS (by
  rw [Lib.extract_from_zero,e];have:x.size=x.data.toList.length:=by simp
  rw [Nat.add_zero,this,List.take_left])
 have e2:(x++sp++r).extract (x.size+sp.size) (x++sp++r).size=r:=zAS (by
  have hl:(x++sp++r).size=x.size+1+r.size:=by rw [ByteArray.size_append,ByteArray.size_append];rfl
  rw [ByteArray.data_extract,Array.toList_extract,hl,e];have hx:x.size=x.data.toList.length:=by simp
  have hr:r.size=r.data.toList.length:=by simp
  rw [show sp.size=1 from rfl,List.extract_eq_take_drop,hx,hr,←List.drop_drop,List.drop_left];simp only [List.drop_succ_cons,List.drop_zero];rw [List.take_of_length_le (by omega)])
 rw [e1,e2]
theorem zEc (x r:ByteArray) (h:(32:UInt8)∉x.data.toList):Lib.countB (x++sp++r) sp=1+Lib.countB r sp:=by
 rw [Lib.countB_hit _ _ _ (by decide) (zIe x r h)]
 congr 2
 exact zAS (by
  have e:(x++sp++r).data.toList=x.data.toList++32::r.data.toList:=by rw [zAB,zAB,List.append_assoc];rfl
  have hl:(x++sp++r).size=x.size+1+r.size:=by rw [ByteArray.size_append,ByteArray.size_append];rfl
  rw [ByteArray.data_extract,Array.toList_extract,hl,e];have hx:x.size=x.data.toList.length:=by simp
  have hr:r.size=r.data.toList.length:=by simp
  rw [show sp.size=1 from rfl,List.extract_eq_take_drop,hx,hr,←List.drop_drop,List.drop_left];simp only [List.drop_succ_cons,List.drop_zero];rw [List.take_of_length_le (by omega)])
theorem zEk (x y:UInt8) (s t:List UInt8):Op.bytesLess (x::s) (y::t)=(decide (x<y)||(x==y&&Op.bytesLess s t)):=rfl
theorem zS8 (p s t:List UInt8):Op.bytesLess (p++s) (p++t)=Op.bytesLess s t:=by
 induction p with
 | nil=>rfl
 | cons x p ih=>
  rw [List.cons_append,List.cons_append,zEk,ih];have:¬x<x:=fun h=>absurd h (by simp)
  simp
theorem zO5 {x y:UInt8}:x<y↔x.toNat<y.toNat:=UInt8.lt_iff_toNat_lt
theorem zD1 (i j:Nat) (hi:i<10) (hj:j<10) (s t:List UInt8):Op.bytesLess (d8 i::s) (d8 j::t)=(decide (i<j)||(decide (i=j)&&Op.bytesLess s t)):=by
 rw [zEk];have e1:decide (d8 i<d8 j)=decide (i<j):=by
  rw [Bool.eq_iff_iff,decide_eq_true_eq,decide_eq_true_eq,zO5,zA2 i hi,zA2 j hj];omega
 have e2:(d8 i==d8 j)=decide (i=j):=by
  rw [Bool.eq_iff_iff,beq_iff_eq,decide_eq_true_eq];constructor
  ·intro h;have:=congrArg UInt8.toNat h;rw [zA2 i hi,zA2 j hj] at this;omega
  ·rintro rfl;rfl
 rw [e1,e2]
theorem lex {A A' n m:Nat} {P:Prop} (hlt:A<A'→n<m) (hgt:A'<A→¬n<m) (heq:A=A'→(P↔n<m)):(A<A'∨A=A'∧P)↔n<m:=by
 rcases Nat.lt_trichotomy A A' with h | h | h
 ·exact ⟨fun _=>hlt h,fun _=>.inl h⟩
 ·exact ⟨fun h'=>h'.elim (fun h'=>absurd h' (by omega)) (fun h'=>(heq h).1 h'.2),fun h'=>.inr ⟨h,(heq h).2 h'⟩⟩
 ·exact ⟨fun h'=>h'.elim (fun h'=>absurd h' (by omega)) (fun h'=>absurd h'.1 (by omega)),fun h'=>absurd h' (hgt h)⟩
theorem zOj (n:Nat) (h:n<1000000):n=((((n / 100000 % 10*10+n / 10000 % 10)*10+n / 1000 % 10)*10+n / 100 % 10)*10+n / 10 % 10)*10+n % 10:=by omega
theorem zTc (n m:Nat) (hn:n<1000000) (hm:m<1000000):Op.bytesLess (esix n) (esix m)=decide (n<m):=by
 unfold esix;have h1:=zOj n hn;have h2:=zOj m hm;have a0:n / 100000 % 10<10:=by omega
 have a1:n / 10000 % 10<10:=by omega
 have a2:n / 1000 % 10<10:=by omega
 have a3:n / 100 % 10<10:=by omega
 have a4:n / 10 % 10<10:=by omega
 have a5:n % 10<10:=by omega
 have b0:m / 100000 % 10<10:=by omega
 have b1:m / 10000 % 10<10:=by omega
 have b2:m / 1000 % 10<10:=by omega
 have b3:m / 100 % 10<10:=by omega
 have b4:m / 10 % 10<10:=by omega
 have b5:m % 10<10:=by omega
 rw [zD1 _ _ a0 b0,zD1 _ _ a1 b1,zD1 _ _ a2 b2,zD1 _ _ a3 b3,zD1 _ _ a4 b4,zD1 _ _ a5 b5];rw [show Op.bytesLess [] []=false from rfl,Bool.and_false,Bool.or_false,Bool.eq_iff_iff];simp only [Bool.or_eq_true,Bool.and_eq_true,decide_eq_true_eq];generalize n / 100000 % 10=x0 at *;generalize n / 10000 % 10=x1 at *;generalize n / 1000 % 10=x2 at *;generalize n / 100 % 10=x3 at *;generalize n / 10 % 10=x4 at *;generalize n % 10=x5 at *;generalize m / 100000 % 10=y0 at *;generalize m / 10000 % 10=y1 at *;generalize m / 1000 % 10=y2 at *;generalize m / 100 % 10=y3 at *;generalize m / 10 % 10=y4 at *;generalize m % 10=y5 at *;refine lex (fun h=>by omega) (fun h=>by omega) fun h0=>?_
 refine lex (fun h=>by omega) (fun h=>by omega) fun h1=>?_
 refine lex (fun h=>by omega) (fun h=>by omega) fun h2=>?_
 refine lex (fun h=>by omega) (fun h=>by omega) fun h3=>?_
 refine lex (fun h=>by omega) (fun h=>by omega) fun h4=>?_
 omega
def tabB (a:ByteArray):ByteArray:=tB++slash++a
def queB (a:ByteArray):ByteArray:=qB++slash++a
def msgB (q:ByteArray) (n:Nat):ByteArray:=mB++slash++(q++slash++six n)
theorem zTK (p s:List UInt8):(Op.bytesLess s (p++[47])=false∧Op.bytesLess s (p++[48])=true)↔∃r,s=p++47::r:=by
 induction p generalizing s with
 | nil=>
  cases s with
  | nil=>simp [Op.bytesLess]
  | cons x s=>
   rw [List.nil_append,List.nil_append,zEk,zEk,show Op.bytesLess s []=false from by cases s<;>rfl,Bool.and_false,Bool.or_false,Bool.and_false,Bool.or_false,decide_eq_false_iff_not,decide_eq_true_eq,zO5,zO5];rw [show UInt8.toNat 47=47 from rfl,show UInt8.toNat 48=48 from rfl];constructor
   ·intro h;have:x.toNat=47:=by omega
    exact ⟨s,by rw [show x=47 from UInt8.toNat_inj.1 this];rfl⟩
   ·rintro ⟨r,h⟩;injection h with h _
    subst h;decide
 | cons y p ih=>
  cases s with
  | nil=>simp [Op.bytesLess]
  | cons x s=>
   rw [List.cons_append,List.cons_append,zEk,zEk];by_cases h1:x<y
   ·have h2:x≠y:=fun e=>by rw [e] at h1;exact absurd h1 (by simp)
    simp [h1,h2]
   ·by_cases h2:x=y
    ·subst h2;have:=ih s;simp [this]
    ·have h3:(x==y)=false:=by simpa using h2
     simp [h1,h2]
theorem zRl (a k:ByteArray):(!slt k (mB++slash++a++slash)&&(((mB++slash++a++⟨#[48]⟩):ByteArray).toList.isEmpty||slt k (mB++slash++a++⟨#[48]⟩)))=true↔∃r,k.data.toList=109::47::(a.data.toList++47::r):=by
 have e1:(mB++slash++a++slash).toList=(109::47::a.data.toList)++[47]:=by rw [ByteArray.toList_eq,zAB,zAB,zAB];rfl
 have e2:((mB++slash++a++⟨#[48]⟩):ByteArray).toList=(109::47::a.data.toList)++[48]:=by rw [ByteArray.toList_eq,zAB,zAB,zAB];rfl
 have:=zTK (109::47::a.data.toList) k.toList;unfold slt;rw [e1,e2,Bool.and_eq_true,Bool.not_eq_true',show ((109::47::a.data.toList)++[(48:UInt8)]).isEmpty=false from rfl,Bool.false_or,this,ByteArray.toList_eq];rfl
theorem zOB {a b:ByteArray} (ha:zAN a) (hb:zAN b) (m:Nat):(∃r,(msgB b m).data.toList=109::47::(a.data.toList++47::r))↔a=b:=by
 have e:(msgB b m).data.toList=109::47::(b.data.toList++47::esix (m % 1000000)):=by
  unfold msgB;rw [zAB,zAB,zAB,zAB];simp only [List.append_assoc];rfl
 rw [e];constructor
 ·rintro ⟨r,h⟩;injection h with _ h
  injection h with _ h
  have h1:=zGy 47 a.data.toList r (zEr ha);rw [←h,zGy 47 _ _ (zEr hb)] at h1;injection h1 with h1 _
  exact zAS h1.symm
 ·rintro rfl;exact ⟨_,rfl⟩
theorem zSy (a b:ByteArray):¬∃r,(tabB b).data.toList=109::47::(a.data.toList++47::r):=by
 rintro ⟨r,h⟩;unfold tabB at h;rw [zAB,zAB] at h;injection h with h _
 exact absurd h (by decide)
theorem zSp (a b:ByteArray):¬∃r,(queB b).data.toList=109::47::(a.data.toList++47::r):=by
 rintro ⟨r,h⟩;unfold queB at h;rw [zAB,zAB] at h;injection h with h _
 exact absurd h (by decide)
theorem zJg (a:ByteArray) (n m:Nat) (hn:n<1000000) (hm:m<1000000):slt (msgB a n) (msgB a m)=decide (n<m):=by
 have e:∀n,n<1000000→(msgB a n).toList=(109::47::(a.data.toList++[47]))++esix n:=fun n hn=>by
  unfold msgB;rw [ByteArray.toList_eq,zAB,zAB,zAB,zAB,show (six n).data.toList=esix (n % 1000000) from rfl,Nat.mod_eq_of_lt hn];rfl
 unfold slt;rw [e n hn,e m hm,zS8,zTc n m hn hm]
def zFB:List (List UInt8)→List UInt8
 | []=>[]
 | [x]=>x
 | x::y::r=>x++32::zFB (y::r)
def noSp (x:List UInt8):Prop:=(32:UInt8)∉x
def zBI:List UInt8→List (List UInt8)
 | []=>[[]]
 | c::r=>if c=32 then []::zBI r else match zBI r with
  | []=>[[c]]
  | w::ws=>(c::w)::ws
theorem zF9:∀l,zBI l≠[]
 | []=>by simp [zBI]
 | c::r=>by
  unfold zBI;split
  ·simp
  ·split<;>simp
theorem zHa:∀(l x:List UInt8),noSp x→zBI x=[x]
 | _,[],_=>rfl
 | l,c::r,h=>by
  have hc:c≠32:=fun e=>h (e ▸ List.mem_cons_self ..)
  have ih:=zHa l r (fun hm=>h (List.mem_cons_of_mem _ hm));unfold zBI;rw [if_neg hc,ih]
theorem zEX:∀(x r:List UInt8),noSp x→zBI (x++32::r)=x::zBI r
 | [],r,_=>by simp [zBI]
 | c::x,r,h=>by
  have hc:c≠32:=fun e=>h (e ▸ List.mem_cons_self ..)
  have ih:=zEX x r (fun hm=>h (List.mem_cons_of_mem _ hm));rw [List.cons_append]
  conv=>lhs;unfold zBI
  rw [if_neg hc,ih]
theorem zI1 (l:List UInt8):∀x∈zBI l,noSp x:=by
 induction l with
 | nil=>intro x hx;simp [zBI] at hx;subst hx;simp [noSp]
 | cons c r ih=>
  intro x hx;unfold zBI at hx;split at hx
  ·rcases List.mem_cons.1 hx with rfl | hx
   ·simp [noSp]
   ·exact ih x hx
  ·rename_i hc;cases hw:zBI r with
   | nil=>exact absurd hw (zF9 r)
   | cons w ws=>
    rw [hw] at hx ih;rcases List.mem_cons.1 hx with rfl | hx
    ·intro hm;rcases List.mem_cons.1 hm with h | h
     ·exact hc h.symm
     ·exact ih w (List.mem_cons_self ..) h
    ·exact ih x (List.mem_cons_of_mem _ hx)
theorem zHg (l:List UInt8):zFB (zBI l)=l:=by
 induction l with
 | nil=>rfl
 | cons c r ih=>
  cases hw:zBI r with
  | nil=>exact absurd hw (zF9 r)
  | cons w ws=>
   rw [hw] at ih;unfold zBI;by_cases hc:c=32
   ·rw [if_pos hc,hw];show []++32::zFB (w::ws)=_;rw [ih,hc];rfl
   ·rw [if_neg hc,hw];cases ws with
    | nil=>rw [←ih];rfl
    | cons y ws=>
     show (c::w)++32::zFB (y::ws)=_;rw [←ih];rfl
theorem zTk (l x y z:List UInt8):zBI l=[x,y,z]↔l=x++32::(y++32::z)∧noSp x∧noSp y∧noSp z:=by
 constructor
 ·intro h;have h1:=zHg l;have h2:=zI1 l;rw [h] at h1 h2;exact ⟨h1.symm,h2 x (by simp),h2 y (by simp),h2 z (by simp)⟩
 ·rintro ⟨rfl,h1,h2,h3⟩;rw [zEX x _ h1,zEX y _ h2,zHa z z h3]
theorem zN0 (s:ByteArray):(Lib.splitB sp 0 (Lib.countB s sp) s).map (·.data.toList)=zBI s.data.toList:=by
 have main:∀(ws:List (List UInt8)) (s:ByteArray),zBI s.data.toList=ws→(Lib.splitB sp 0 (Lib.countB s sp) s).map (·.data.toList)=ws:=by
  intro ws
  induction ws with
  | nil=>intro s h;exact absurd h (zF9 _)
  | cons x r ih=>
   intro s h;have hj:=zHg s.data.toList;have ha:=zI1 s.data.toList;rw [h] at hj ha;have hx:noSp x:=ha x (by simp);cases r with
   | nil=>
    have hs:s.data.toList=x:=hj.symm;have hns:(32:UInt8)∉s.data.toList:=by rw [hs];exact hx
    rw [Lib.splitB_miss _ _ _ _ (zDE s hns)];simp [hs]
   | cons y r=>
    have hs:s.data.toList=x++32::zFB (y::r):=hj.symm;have e:s=⟨x.toArray⟩++sp++⟨(zFB (y::r)).toArray⟩:=zAS (by rw [zAB,zAB,hs,List.append_assoc];rfl);have hxs:(32:UInt8)∉(⟨x.toArray⟩:ByteArray).data.toList:=by simpa [noSp] using hx
    have hw:zBI (zFB (y::r))=y::r:=by
     rw [hs,zEX x _ hx] at h;injection h
    rw [e,zEc _ _ hxs,Nat.add_comm,zCK _ _ _ hxs,List.map_cons,ih ⟨(zFB (y::r)).toArray⟩ (by simpa using hw)]
 exact main _ s rfl
def valL (l:List UInt8):Nat:=l.foldl (fun n c=>10*n+(c.toNat-48)) 0
def zFj (s:ByteArray) (most n:Nat):Prop:=n≤most∧s=zAM n
