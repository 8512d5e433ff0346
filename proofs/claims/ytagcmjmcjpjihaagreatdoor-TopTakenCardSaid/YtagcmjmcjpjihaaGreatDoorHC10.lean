/- Texts Span of this claim, laid together. -/
import Derived.Test.YtagcmjmcjpjihaaGreatDoorRows
import Derived.Test.YtagcmjmcjpjihaaGreatDoorHC2
import Derived.Test.YtagcmjmcjpjihaaGreatDoorHC6
import Derived.WalkSpells
set_option linter.unusedVariables false
set_option linter.unusedSimpArgs false
set_option maxHeartbeats 8000000
set_option maxRecDepth 100000
namespace Go.Proofs.YtagcmjmcjpjihaaGreatDoor
open Go.RowKit
structure Sp where
 lo:ByteArray
 hi:ByteArray
def Sp.v (s:Sp):Value:=.agg #[.string s.lo,.string s.hi]
def below (k to:ByteArray):Bool:=to.toList.isEmpty||slt k to
def Sp.has (s:Sp) (k:ByteArray):Bool:=!slt k s.lo&&below k s.hi
def toOf (a b:ByteArray):ByteArray:=if a.toList.isEmpty||!b.toList.isEmpty&&slt b a then b else a
def Sp.both (a b:Sp):Sp:=⟨if slt a.lo b.lo then b.lo else a.lo,toOf a.hi b.hi⟩
def Sp.point (k:ByteArray):Sp:=⟨k,k++nul⟩
theorem zBP {a b:Bool} (h:a=b):Ending.returned (.bool a)=.returned (.bool b):=by rw [h]
theorem zQA (k to:ByteArray) (w:World) :
 Calls Tryz.prog 206 #[.string k,.string to] w fun e w'=>e=.returned (.bool (below k to))∧w'=w:=by
 go_enter Tryz.func206,Tryz.ntmps206;go_wp2;all_goals (go_ret;refine ⟨?_,rfl⟩;simp [below,slt, *])
theorem zTL (lo hi k:ByteArray) (w:World) :
 Calls Tryz.prog 132 #[.agg #[.string lo,.string hi],.string k] w fun e w'=>e=.returned (.bool (Sp.has ⟨lo,hi⟩ k))∧Ext w w':=by
 go_enter Tryz.func132,Tryz.ntmps132;go_wp2_with (go_at_call 206;refine (zQA _ _ _).mono ?_;rintro e w' ⟨rfl,rfl⟩);all_goals (go_ret;refine ⟨?_,(Ext.refl _).alloc _⟩;simp [Sp.has,slt, *])
theorem zSD (lo hi lo' hi':ByteArray) (w:World) :
 Calls Tryz.prog 137 #[.agg #[.string lo,.string hi],.agg #[.string lo',.string hi']] w fun e w'=>e=.returned (Sp.both ⟨lo,hi⟩ ⟨lo',hi'⟩).v∧Ext w w':=by
 go_enter Tryz.func137,Tryz.ntmps137;go_wp2;all_goals
  refine zAD rfl fun K hK=>?_
  simp [results,Tryz.results137,go_sem];refine hK _ ⟨congrArg Ending.returned ?_,(((Ext.refl _).alloc _).alloc _).alloc _⟩;clear hK K;simp only [Sp.both,Sp.v,toOf,slt]
  grind
theorem zDS (k:ByteArray) (w:World) (hk:k.size≤1000) :
 Calls Tryz.prog 114 #[.string k] w fun e w'=>e=.returned (Sp.point k).v∧Ext w w':=by
 go_enter Tryz.func114,Tryz.ntmps114;go_wp2;refine bodyPost_ret (v:=(Sp.point k).v) ?_ rfl ⟨rfl,?_⟩
 ·simp [results,Tryz.results114,go_sem,Sp.v,Sp.point,nul]
 ·exact (Ext.refl _).alloc _
