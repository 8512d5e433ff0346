/- Texts TopSerialLift of this claim, laid together. -/
import Derived.Test.YtagcmjmcjpjihaaGreatDoorHC33
import Derived.Test.YtagcmjmcjpjihaaGreatDoorHC21
import Derived.Test.YtagcmjmcjpjihaaGreatDoorHSe6
import Derived.Test.YtagcmjmcjpjihaaGreatDoorTie
import Derived.Test.YtagcmjmcjpjihaaGreatDoorCards
set_option linter.unusedVariables false
set_option linter.unusedSimpArgs false
set_option maxHeartbeats 8000000
set_option maxRecDepth 100000
namespace Go.Proofs.YtagcmjmcjpjihaaGreatDoor
open Go.ChangeShapes Go.WideShapes Go.ChangeAt Go.RowKit Go.Joins
open Go.ChangeMaps (open_string)
theorem zCd (os:Os) (args:Array Value):laidMetH Tryz.prog Rows.topSerialRow.laid ((zBq os).forCall (fun _ _=>0) ⟨#[],args,[]⟩).memory:=
 zDn os args
theorem zIC (os:Os) (started:os.Started) (H:Type) (enc:TypeId×Value→H) :
 ReturnsInHanded {} Tryz.checked os 10 .any (fun w args=>(Rows.topSerialSpec.pre enc Tryz.prog Tryz.f10 [] false w args∧laidMetH Tryz.prog Rows.topSerialRow.laid w)∧sizedMet enc Tryz.prog Tryz.f10 (OpenSpec.ofChange Rows.topSerialSpec) false w args)
  (Rows.topSerialSpec.post enc Tryz.prog Tryz.f10 false true false false):=by
 refine zCk (C:=Tryz.checked) (X:=fun w _=>laidMetH Tryz.prog Rows.topSerialRow.laid w) (fun _ _ _ hh h=>h.of_heap hh) Tryz.own started (by kernel_rfl) Tryz.func10
  (ChangeSpec.witness_shaped (enc:=enc) (C:=Tryz.checked) (os:=os) (X:=fun w _=>laidMetH Tryz.prog Rows.topSerialRow.laid w) false (zBq os) #[.slice none 0 0] 8 rfl (World.shaped_of_RefB (by kernel_rfl) (by kernel_rfl)) (by kernel_rfl) (by kernel_rfl) (by kernel_rfl) (zCd os _)) ?_
 intro W base args ds gs before hval0 hW hL hsh;have hval:∀(j:Nat) t v,Tryz.f10.params[j]?=some t→args[j]?=some v→Value.okWide Tryz.prog W .any base t v:=hval0;have hlt:∀x∈before,x.block<W.heap.size:=fun x hx=>by simpa using hW.lt x hx
 obtain ⟨p,q,hA0,hV,rfl,hfz,hnd⟩:=hW;have hA:DataW.TrodAll enc Tryz.prog W 0 (fun _=>true) true Tryz.f10.params.toList args.toList ds p:=hA0;have hA1:=hA;rw [Tryz.params10] at hA hval;obtain ⟨v0,d0,rfl,rfl,h0⟩:=trodAll_one hA;obtain ⟨rfl,rfl⟩:=trodVars_none hV;rw [List.append_nil] at hfz hnd hlt;obtain ⟨aa,ac,l,rfl,hlen,hA2⟩:=zD2 (hval 0 22 v0 rfl rfl) h0;have hlen':l.length≤9223372036854775807:=hlen;refine (zK5 aa ac l W ⟨lib7 hL hsh,hA2⟩ hlen').mono fun e W' ⟨he,hx⟩=>?_
 subst he;exact ⟨_,rfl,zEs Tryz.laidOut (by kernel_rfl) (by kernel_rfl) Tryz.underlying4 rfl rfl rfl rfl hA1 hfz hnd hlt hx⟩
