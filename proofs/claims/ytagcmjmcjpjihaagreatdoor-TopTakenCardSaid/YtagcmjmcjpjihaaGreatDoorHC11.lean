/- Texts Span2 of this claim, laid together. -/
import Derived.Test.YtagcmjmcjpjihaaGreatDoorHC10
import Derived.Lib.Hide
set_option linter.unusedVariables false
set_option linter.unusedSimpArgs false
set_option maxHeartbeats 8000000
set_option maxRecDepth 100000
namespace Go.Proofs.YtagcmjmcjpjihaaGreatDoor
open Go.RowKit
def SpansAt (w:World) (a:Option Addr) (l:List Sp):Prop:=
 l=[]∨∃b off,a=some ⟨b,off,none⟩∧∀i (h:i<l.length),w.cell? ⟨b,off+i*2,none⟩=some (.string l[i].lo)∧w.cell? ⟨b,off+i*2+1,none⟩=some (.string l[i].hi)
theorem SpansAt.ext {w w':World} {a:Option Addr} {l:List Sp} (h:SpansAt w a l) (hx:Ext w w'):SpansAt w' a l:=
 h.imp id fun ⟨b,off,ha,hc⟩=>⟨b,off,ha,fun i hi=>⟨hx.some (hc i hi).1,hx.some (hc i hi).2⟩⟩
def zBk (l:List Sp):Bool:=decide (l.length≤50)&&l.all fun s=>decide (s.lo.size≤60)&&decide (s.hi.size≤60)
theorem zJR {l:List Sp} (h:50<(l.length:Int)):zBk l=false:=by
 have:¬l.length≤50:=by omega
 simp [zBk,this]
def zDV (s:Sp):Bool:=decide (s.lo.size≤60)&&decide (s.hi.size≤60)
theorem zEO {l:List Sp} (h:(l.length:Int)≤50):zBk l=l.all zDV:=by
 have:l.length≤50:=by omega
 simp [zBk,this];rfl
theorem zGP {s:Sp} (h:60<(s.lo.size:Int)∨60<(s.hi.size:Int)):zDV s=false:=by
 simp [zDV];omega
theorem zKy {s:Sp} (h:(s.lo.size:Int)≤60∧(s.hi.size:Int)≤60):zDV s=true:=by
 simp [zDV];omega
theorem zDv (a:Option Addr) (cap:Nat) (l:List Sp) (w:World) (hl:l.length≤maxLen) (hs:SpansAt w a l) :
 Calls Tryz.prog 55 #[.slice a l.length cap] w fun e w'=>e=.returned (.bool (zBk l))∧w'=w:=by
 unfold maxLen at hl;go_enter Tryz.func55,Tryz.ntmps55;go_wp2
 ·go_ret;exact ⟨zBP (zJR (by assumption)).symm,rfl⟩
 ·have h50:(l.length:Int)≤50:=by omega
  go_loop [3] (fun i=>∃k:Nat,k≤l.length∧i=.int .i64 k∧(l.take k).all zDV=true) (fun i=>l.length-(intOf i).toNat)
  case atStart=>exact ⟨0,by omega,rfl,by simp⟩
  case round=>
   obtain ⟨k,hk,rfl,hall⟩:=hrel;have HA:=Lib.hid hall;clear hall;by_cases hlt:k<l.length
   ·rcases hs with rfl | ⟨b,off,rfl,hc⟩
    ·simp at hlt
    obtain ⟨h1,h2⟩:=hc k hlt;clear hc;go_wp2
    ·go_ret;exact ⟨zBP ((zEO h50).trans (zCu _ _ k hlt (zGP (by assumption)))).symm,rfl⟩
    ·exact ⟨⟨k+1,by omega,by go_num,by rw [zKx _ _ _ hlt,HA.out,zKy (by assumption)];rfl⟩,by simp [intOf];omega⟩
    ·go_ret;exact ⟨zBP ((zEO h50).trans (zCu _ _ k hlt (zGP (.inl (by assumption))))).symm,rfl⟩
   ·go_wp2;go_ret;exact ⟨zBP ((zEO h50).trans (zNn (by omega) HA.out)).symm,rfl⟩
theorem zR5 (lo hi k:ByteArray) (c:Addr) (w:World) (hc:w.cell? c=some (.string k)) :
 Calls Tryz.prog 213 #[.agg #[.string lo,.string hi],.pointer (some c)] w fun e w'=>e=.returned (.bool (Sp.has ⟨lo,hi⟩ k))∧Ext w w':=by
 go_enter Tryz.func213,Tryz.ntmps213;have hc2:=((Ext.refl w).alloc (.cells #[.string lo,.string hi] 98)).some hc;go_wp2_with (go_at_call 132;refine (zTL _ _ _ _).mono ?_;rintro e w' ⟨rfl,hx⟩);go_ret;exact ⟨rfl,((Ext.refl _).alloc _).trans hx⟩
theorem zLF (a:Option Addr) (cap:Nat) (l:List Sp) (k:ByteArray) (c:Addr) (w:World) (hl:l.length≤maxLen) (hs:SpansAt w a l) (hc:w.cell? c=some (.string k)) :
 Calls Tryz.prog 249 #[.slice a l.length cap,.func (.func 213) #[] #[.pointer (some c)]] w
  fun e w'=>(∃n:Int,e=.returned (.int .i64 n)∧decide (0≤n)=l.any (fun s=>s.has k))∧Ext w w':=by
 unfold maxLen at hl;go_enter Tryz.func249,Tryz.ntmps249;go_wp2;go_loopw [8] (fun i wr=>∃j:Nat,j≤l.length∧i=.int .i64 j∧(l.take j).any (fun s=>s.has k)=false∧Ext w wr) (fun i _=>l.length-(intOf i).toNat)
 case atStart=>exact ⟨0,by omega,rfl,by simp,Ext.refl _⟩
 case round=>
  obtain ⟨j,hj,rfl,hall,hx⟩:=hrel;have HA:=Lib.hid hall;clear hall;have hc':=hx.some hc;by_cases hlt:j<l.length
  ·rcases hs with rfl | ⟨b,off,rfl,hs⟩
   ·simp at hlt
   obtain ⟨h1,h2⟩:=hs j hlt;have h1':=hx.some h1;have h2':=hx.some h2;clear hs h1 h2 hc;go_wp2_with (go_at_call 213;refine (zR5 _ _ k _ _ (by assumption)).mono ?_;rintro e w' ⟨rfl,hx'⟩)
   ·go_ret;exact ⟨⟨j,rfl,by rw [zNL _ _ j hlt (by assumption)];simp⟩,by repeat (first | assumption | exact Ext.refl _ | refine Ext.trans ?_ (by assumption))⟩
   ·exact ⟨⟨j+1,by omega,by go_num,by rw [zK0 _ _ _ hlt,HA.out];simpa using ‹_›,hx.trans hx'⟩,by simp [intOf];omega⟩
  ·go_wp2;go_ret;exact ⟨⟨-1,rfl,by rw [←List.take_of_length_le (Nat.le_of_not_lt hlt),HA.out];rfl⟩,hx⟩
theorem zH2 (a:Option Addr) (cap:Nat) (l:List Sp) (k:ByteArray) (c:Addr) (w:World) (hl:l.length≤maxLen) (hs:SpansAt w a l) (hc:w.cell? c=some (.string k)) :
 Calls Tryz.prog 212 #[.slice a l.length cap,.func (.func 213) #[] #[.pointer (some c)]] w
  fun e w'=>e=.returned (.bool (l.any (fun s=>s.has k)))∧Ext w w':=by
 go_enter Tryz.func212,Tryz.ntmps212;go_wp2_with (go_at_call 249;refine (zLF _ _ _ k _ _ hl hs hc).mono ?_;rintro e w' ⟨⟨n,rfl,hn⟩,hx⟩);go_ret;exact ⟨rfl,hx⟩
theorem zTO (a:Option Addr) (cap:Nat) (l:List Sp) (k:ByteArray) (w:World) (hl:l.length≤maxLen) (hs:SpansAt w a l) :
 Calls Tryz.prog 147 #[.slice a l.length cap,.string k] w fun e w'=>e=.returned (.bool (l.any (fun s=>s.has k)))∧Ext w w':=by
 have hs':SpansAt (w.alloc (.cells #[.string k] 9)) a l:=hs.ext ((Ext.refl w).alloc _);go_enter Tryz.func147,Tryz.ntmps147;go_wp2_with (go_at_call 212;refine (zH2 _ _ _ k _ _ hl hs' (by simp)).mono ?_;rintro e w' ⟨rfl,hx⟩);go_ret;exact ⟨rfl,((Ext.refl _).alloc _).trans hx⟩
