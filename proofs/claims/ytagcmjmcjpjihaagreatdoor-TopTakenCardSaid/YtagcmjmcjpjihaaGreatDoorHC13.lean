/- Texts Change0, Acts, Act2 of this claim, laid together. -/
import Derived.Test.YtagcmjmcjpjihaaGreatDoorHC11
import Derived.Test.YtagcmjmcjpjihaaGreatDoorHC8
set_option linter.unusedVariables false
set_option linter.unusedSimpArgs false
set_option maxHeartbeats 8000000
set_option maxRecDepth 100000
namespace Go.Proofs.YtagcmjmcjpjihaaGreatDoor
open Go.RowKit
def ChangesAt (w:World) (a:Option Addr) (l:List Ch):Prop:=
 l=[]∨∃b off,a=some ⟨b,off,none⟩∧∀i (h:i<l.length),w.cell? ⟨b,off+i*3,none⟩=some (.string l[i].key)∧w.cell? ⟨b,off+i*3+1,none⟩=some (.string l[i].val)∧w.cell? ⟨b,off+i*3+2,none⟩=some (.bool l[i].gone)
theorem zPX {α:Type} (l:List α) (k:Nat) (h:k<l.length):l.take (k+1)=l.take k++[l[k]]:=List.take_succ_eq_append_getElem h
def Upto {α:Type} (p:α→Bool) (l:List α) (k:Nat):Prop:=(l.take k).all p=true
theorem Upto.zero {α:Type} {p:α→Bool} {l:List α}:Upto p l 0:=by simp [Upto]
theorem Upto.snoc {α:Type} {p:α→Bool} {l:List α} {k:Nat} (h:Upto p l k) (hk:k<l.length) (hp:p l[k]=true):Upto p l (k+1):=by
 unfold Upto at *;rw [zPX l k hk,List.all_append,h];simp [hp]
theorem Upto.all {α:Type} {p:α→Bool} {l:List α} {k:Nat} (h:Upto p l k) (hk:l.length≤k):l.all p=true:=by
 unfold Upto at h;rwa [List.take_of_length_le hk] at h
structure Ac where
 kind:ByteArray
 a:Int
 b:Int
 c:Int
 k:Int
 s:ByteArray
 t:ByteArray
 cp:Option Addr
 cc:Nat
 ch:List Ch
 sp:Option Addr
 sc:Nat
 spn:List Sp
def Ac.cells (x:Ac):List Value:=[.string x.kind,.int .i64 x.a,.int .i64 x.b,.int .i64 x.c,.int .u64 x.k,.string x.s,.string x.t,.slice x.cp x.ch.length x.cc,.slice x.sp x.spn.length x.sc]
def Ac.wf (w:World) (x:Ac):Prop:=((Lit.int .i64 x.a).wf=true∧(Lit.int .i64 x.b).wf=true∧(Lit.int .i64 x.c).wf=true∧(Lit.int .u64 x.k).wf=true)∧ChangesAt w x.cp x.ch∧SpansAt w x.sp x.spn∧x.ch.length≤maxLen∧x.spn.length≤maxLen
structure AcAt (w:World) (g off:Nat) (x:Ac):Prop where
 kind:w.cell? ⟨g,off,none⟩=some (.string x.kind)
 a:w.cell? ⟨g,off+1,none⟩=some (.int .i64 x.a)
 b:w.cell? ⟨g,off+2,none⟩=some (.int .i64 x.b)
 c:w.cell? ⟨g,off+3,none⟩=some (.int .i64 x.c)
 k:w.cell? ⟨g,off+4,none⟩=some (.int .u64 x.k)
 s:w.cell? ⟨g,off+5,none⟩=some (.string x.s)
 t:w.cell? ⟨g,off+6,none⟩=some (.string x.t)
 ch:w.cell? ⟨g,off+7,none⟩=some (.slice x.cp x.ch.length x.cc)
 sp:w.cell? ⟨g,off+8,none⟩=some (.slice x.sp x.spn.length x.sc)
def ActsAt (w:World) (a:Option Addr) (l:List Ac):Prop:=
 (l=[]∨∃b off,a=some ⟨b,off,none⟩∧∀i (h:i<l.length),AcAt w b (off+i*9) l[i])∧∀x∈l,x.wf w
def zB0 (c:Ch):Bool:=decide (c.key.size≤60)&&decide (c.val.size≤100)
def zBp (l:List Ch) (most:Nat):Bool:=decide (l.length≤most)&&l.all zB0
theorem zHH {l:List Ch} {most:Nat} (h:(most:Int)<(l.length:Int)):zBp l most=false:=by
 have:¬l.length≤most:=by omega
 simp [zBp,this]
theorem zDm {l:List Ch} {most:Nat} (h:(l.length:Int)≤most):zBp l most=l.all zB0:=by
 have:l.length≤most:=by omega
 simp [zBp,this]
theorem zFR {s:Ch} (h:60<(s.key.size:Int)∨100<(s.val.size:Int)):zB0 s=false:=by
 simp [zB0];omega
theorem zIp {s:Ch} (h:(s.key.size:Int)≤60∧(s.val.size:Int)≤100):zB0 s=true:=by
 simp [zB0];omega
theorem zDO (a:Option Addr) (cap:Nat) (l:List Ch) (most:Nat) (w:World) (hl:l.length≤maxLen) (hm:most≤1000) (hs:ChangesAt w a l) :
 Calls Tryz.prog 64 #[.slice a l.length cap,.int .i64 most] w fun e w'=>e=.returned (.bool (zBp l most))∧w'=w:=by
 unfold maxLen at hl;go_enter Tryz.func64,Tryz.ntmps64;go_wp2
 ·go_ret;exact ⟨zBP (zHH (by omega)).symm,rfl⟩
 ·have h50:(l.length:Int)≤most:=by omega
  go_loop [5] (fun i=>∃k:Nat,k≤l.length∧i=.int .i64 k∧Upto zB0 l k) (fun i=>l.length-(intOf i).toNat)
  case atStart=>exact ⟨0,by omega,rfl,Upto.zero⟩
  case round=>
   obtain ⟨k,hk,rfl,HA⟩:=hrel;by_cases hlt:k<l.length
   ·rcases hs with rfl | ⟨b,off,rfl,hc⟩
    ·simp at hlt
    obtain ⟨h1,h2,_⟩:=hc k hlt;clear hc;go_wp2
    ·go_ret;exact ⟨zBP ((zDm h50).trans (zCu _ _ k hlt (zFR (by assumption)))).symm,rfl⟩
    ·exact ⟨⟨k+1,by omega,by go_num,HA.snoc hlt (zIp (by assumption))⟩,by simp [intOf];omega⟩
    ·go_ret;exact ⟨zBP ((zDm h50).trans (zCu _ _ k hlt (zFR (.inl (by assumption))))).symm,rfl⟩
   ·go_wp2;go_ret;exact ⟨zBP ((zDm h50).trans (HA.all (by omega))).symm,rfl⟩
def zCN (x:Ac):Bool:=decide (x.s.size≤120)&&decide (x.t.size≤100)&&zBp x.ch 20&&zBk x.spn
def zAT (l:List Ac) (most:Nat):Bool:=decide (l.length≤most)&&l.all zCN
theorem zJi {l:List Ac} {most:Nat} (h:(most:Int)<(l.length:Int)):zAT l most=false:=by
 have:¬l.length≤most:=by omega
 simp [zAT,this]
theorem zGp {l:List Ac} {most:Nat} (h:(l.length:Int)≤most):zAT l most=l.all zCN:=by
 have:l.length≤most:=by omega
 simp [zAT,this]
theorem zBv (a:Option Addr) (cap:Nat) (l:List Ac) (most:Nat) (w:World) (hl:l.length≤maxLen) (hm:most≤1000) (hs:ActsAt w a l) :
 Calls Tryz.prog 16 #[.slice a l.length cap,.int .i64 most] w fun e w'=>e=.returned (.bool (zAT l most))∧w'=w:=by
 unfold maxLen at hl;go_enter Tryz.func16,Tryz.ntmps16;go_wp2
 ·go_ret;exact ⟨zBP (zJi (by omega)).symm,rfl⟩
 ·have h50:(l.length:Int)≤most:=by omega
  go_loop [5] (fun i=>∃k:Nat,k≤l.length∧i=.int .i64 k∧Upto zCN l k) (fun i=>l.length-(intOf i).toNat)
  case atStart=>exact ⟨0,by omega,rfl,Upto.zero⟩
  case round=>
   obtain ⟨k,hk,rfl,HA⟩:=hrel;by_cases hlt:k<l.length
   ·obtain ⟨hs1,hs2⟩:=hs;rcases hs1 with rfl | ⟨b,off,rfl,hc⟩
    ·simp at hlt
    have hk:=hc k hlt;obtain ⟨_,hc1,hc2,hc3,hc4⟩:=hs2 _ (List.getElem_mem hlt);have h1:=hk.s;have h2:=hk.t;have h3:=hk.ch;have h4:=hk.sp;clear hc hk;have no:zCN l[k]=false→zAT l most=false:=fun h=>(zGp h50).trans (zCu _ _ k hlt h)
    by_cases e1:(l[k].s.size:Int)≤120
    ·by_cases e2:(l[k].t.size:Int)≤100
     ·cases e3:zBp l[k].ch 20 with
      | true=>
       cases e4:zBk l[k].spn with
       | true=>
        go_wp2_with (first
         | (go_at_call 64;refine (zDO _ _ _ 20 _ hc3 (by omega) hc1).mono ?_;rintro e w' ⟨rfl,rfl⟩;dsimp only;rw [e3])
         | (go_at_call 55;refine (zDv _ _ _ _ hc4 hc2).mono ?_;rintro e w' ⟨rfl,rfl⟩;dsimp only;rw [e4]))
        refine ⟨⟨k+1,by omega,by go_num,HA.snoc hlt ?_⟩,by simp [intOf];omega⟩;simp [zCN,e3,e4];omega
       | false=>
        go_wp2_with (first
         | (go_at_call 64;refine (zDO _ _ _ 20 _ hc3 (by omega) hc1).mono ?_;rintro e w' ⟨rfl,rfl⟩;dsimp only;rw [e3])
         | (go_at_call 55;refine (zDv _ _ _ _ hc4 hc2).mono ?_;rintro e w' ⟨rfl,rfl⟩;dsimp only;rw [e4]))
        go_ret;exact ⟨zBP (no (by simp [zCN,e4])).symm,rfl⟩
      | false=>
       go_wp2_with (first
        | (go_at_call 64;refine (zDO _ _ _ 20 _ hc3 (by omega) hc1).mono ?_;rintro e w' ⟨rfl,rfl⟩;dsimp only;rw [e3]))
       go_ret;exact ⟨zBP (no (by simp [zCN,e3])).symm,rfl⟩
     ·go_wp2;go_ret;exact ⟨zBP (no (by simp [zCN,show ¬l[k].t.size≤100 from by omega])).symm,rfl⟩
    ·go_wp2;go_ret;exact ⟨zBP (no (by simp [zCN,show ¬l[k].s.size≤120 from by omega])).symm,rfl⟩
   ·go_wp2;go_ret;exact ⟨zBP ((zGp h50).trans (HA.all (by omega))).symm,rfl⟩
theorem zEw {w w':World} (h:∀b,b<w.heap.size→w'.heap[b]?=w.heap[b]?) (a:Addr) (v:Value) (hc:w.cell? a=some v):w'.cell? a=some v:=by
 have hb:a.block<w.heap.size:=by
  unfold World.cell? at hc;split at hc
  ·rename_i he;exact (Array.getElem?_eq_some_iff.1 he).1
  ·cases hc
 rw [World.cell?_of_block (w:=w) (h _ hb)];exact hc
theorem AcAt.up {w w':World} {b off:Nat} {x:Ac} (h:AcAt w b off x) (hx:∀a v,w.cell? a=some v→w'.cell? a=some v):AcAt w' b off x:=
 ⟨hx _ _ h.1,hx _ _ h.2,hx _ _ h.3,hx _ _ h.4,hx _ _ h.5,hx _ _ h.6,hx _ _ h.7,hx _ _ h.8,hx _ _ h.9⟩
theorem ChangesAt.up {w w':World} {a:Option Addr} {l:List Ch} (h:ChangesAt w a l) (hx:∀a v,w.cell? a=some v→w'.cell? a=some v):ChangesAt w' a l:=
 h.imp id fun ⟨b,off,ha,hc⟩=>⟨b,off,ha,fun i hi=>⟨hx _ _ (hc i hi).1,hx _ _ (hc i hi).2.1,hx _ _ (hc i hi).2.2⟩⟩
theorem SpansAt.up {w w':World} {a:Option Addr} {l:List Sp} (h:SpansAt w a l) (hx:∀a v,w.cell? a=some v→w'.cell? a=some v):SpansAt w' a l:=
 h.imp id fun ⟨b,off,ha,hc⟩=>⟨b,off,ha,fun i hi=>⟨hx _ _ (hc i hi).1,hx _ _ (hc i hi).2⟩⟩
theorem ActsAt.up {w w':World} {a:Option Addr} {l:List Ac} (h:ActsAt w a l) (hx:∀a v,w.cell? a=some v→w'.cell? a=some v):ActsAt w' a l:=
 ⟨h.1.imp id fun ⟨b,off,ha,hc⟩=>⟨b,off,ha,fun i hi=>(hc i hi).up hx⟩,fun x hm=>⟨(h.2 x hm).1,(h.2 x hm).2.1.up hx,(h.2 x hm).2.2.1.up hx,(h.2 x hm).2.2.2⟩⟩
theorem zK2 {l:List Ac} {m:Nat} (h:zAT l m=true):l.length≤m:=by
 simp only [zAT,Bool.and_eq_true,decide_eq_true_eq] at h;exact h.1
theorem zGs {l:List Ac} {m:Nat} (h:zAT l m=true) {x:Ac} (hx:x∈l):x.s.size≤120∧x.t.size≤100∧x.ch.length≤20∧(∀c∈x.ch,c.key.size≤60∧c.val.size≤100)∧zBk x.spn=true:=by
 simp only [zAT,Bool.and_eq_true,decide_eq_true_eq,List.all_eq_true] at h;have h1:=h.2 x hx;simp only [zCN,zBp,zB0,Bool.and_eq_true,decide_eq_true_eq,List.all_eq_true] at h1;exact ⟨h1.1.1.1,h1.1.1.2,h1.1.2.1,h1.1.2.2,h1.2⟩
