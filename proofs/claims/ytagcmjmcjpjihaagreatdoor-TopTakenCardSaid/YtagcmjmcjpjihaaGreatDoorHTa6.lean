/- Texts Row7+, Row9+ of this claim, laid together. -/
import Derived.Test.YtagcmjmcjpjihaaGreatDoorHTa5
import Derived.Test.YtagcmjmcjpjihaaGreatDoorHC27
set_option linter.unusedVariables false
set_option linter.unusedSimpArgs false
set_option maxHeartbeats 8000000
set_option maxRecDepth 100000
namespace Go.Proofs.YtagcmjmcjpjihaaGreatDoor
open Go.RowKit
theorem zUK (a:ByteArray) (w:World) (ha:a.size≤1000):Calls Tryz.prog 52 #[.string a] w fun e w'=>e=.returned (.agg #[.string (loB a),.string (hiB a)])∧Ext w w':=by
 have e1:(⟨#[109,47]⟩++a)++⟨#[47]⟩=loB a:=zAS (by unfold loB;rw [zAB,zAB,zAB,zAB,zAB];rfl);have e2:(⟨#[109,47]⟩++a)++⟨#[48]⟩=hiB a:=zAS (by unfold hiB;rw [zAB,zAB,zAB,zAB,zAB];rfl);have E1:=Lib.hid e1;have E2:=Lib.hid e2;clear e1 e2;go_enter Tryz.func52,Tryz.ntmps52;go_wp2;refine bodyPost_ret (v:=.agg #[.string (loB a),.string (hiB a)]) ?_ rfl ⟨rfl,?_⟩
 ·simp [results,Tryz.results52,go_sem,←E1.out,←E2.out]
 ·exact (Ext.refl _).alloc _
theorem zUU (a b:Nat) (d:ByteArray):Lib.splitB sp 0 2 (rowS a b d)=[zAM a,zAM b,d]:=by
 unfold rowS;rw [zCK _ _ _ (zEW a),zCK _ _ _ (zEW b),Lib.splitB_zero]
