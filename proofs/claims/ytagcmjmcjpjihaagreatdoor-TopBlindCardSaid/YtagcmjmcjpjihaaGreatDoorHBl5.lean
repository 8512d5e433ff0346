/- Texts TopBlindLift of this claim, laid together. -/
import Derived.Test.YtagcmjmcjpjihaaGreatDoorHC33
import Derived.Test.YtagcmjmcjpjihaaGreatDoorHC21
import Derived.Test.YtagcmjmcjpjihaaGreatDoorHBl4
import Derived.Test.YtagcmjmcjpjihaaGreatDoorTie
import Derived.Test.YtagcmjmcjpjihaaGreatDoorCards
set_option linter.unusedVariables false
set_option linter.unusedSimpArgs false
set_option maxHeartbeats 8000000
set_option maxRecDepth 100000
namespace Go.Proofs.YtagcmjmcjpjihaaGreatDoor
open Go.ChangeShapes Go.WideShapes Go.ChangeAt Go.RowKit Go.Joins
open Go.ChangeMaps (open_string)
theorem zCd (os:Os) (args:Array Value):laidMetH Tryz.prog Rows.topBlindRow.laid ((zBq os).forCall (fun _ _=>0) ⟨#[],args,[]⟩).memory:=
 zDn os args
theorem zIZ (os:Os) (started:os.Started) (H:Type) (enc:TypeId×Value→H) :
 ReturnsInHanded {} Tryz.checked os 9 .any (fun w args=>(Rows.topBlindSpec.pre enc Tryz.prog Tryz.f9 [] false w args∧laidMetH Tryz.prog Rows.topBlindRow.laid w)∧sizedMet enc Tryz.prog Tryz.f9 (OpenSpec.ofChange Rows.topBlindSpec) false w args)
  (Rows.topBlindSpec.post enc Tryz.prog Tryz.f9 false true false false):=by
 refine zCk (C:=Tryz.checked) (X:=fun w _=>laidMetH Tryz.prog Rows.topBlindRow.laid w) (fun _ _ _ hh h=>h.of_heap hh) Tryz.own started (by kernel_rfl) Tryz.func9
  (ChangeSpec.witness_shaped (enc:=enc) (C:=Tryz.checked) (os:=os) (X:=fun w _=>laidMetH Tryz.prog Rows.topBlindRow.laid w) false (zBq os) #[.slice none 0 0,.string ⟨#[]⟩,.string ⟨#[]⟩,.string ⟨#[]⟩] 8 rfl (World.shaped_of_RefB (by kernel_rfl) (by kernel_rfl)) (by kernel_rfl) (by kernel_rfl) (by kernel_rfl) (zCd os _)) ?_
 intro W base args ds gs before hval0 hW hL hsh;have hval:∀(j:Nat) t v,Tryz.f9.params[j]?=some t→args[j]?=some v→Value.okWide Tryz.prog W .any base t v:=hval0;have hlt:∀x∈before,x.block<W.heap.size:=fun x hx=>by simpa using hW.lt x hx
 obtain ⟨p,q,hA0,hV,rfl,hfz,hnd⟩:=hW;have hA:DataW.TrodAll enc Tryz.prog W 0 (fun _=>true) true Tryz.f9.params.toList args.toList ds p:=hA0;have hA1:=hA;rw [Tryz.params9] at hA hval;obtain ⟨v0,v1,v2,v3,d0,d1,d2,d3,p0,p1,p2,p3,rfl,rfl,rfl,h0,h1,h2,h3⟩:=trodAll_four hA;obtain ⟨rfl,rfl⟩:=trodVars_none hV;rw [List.append_nil] at hfz hnd hlt;obtain ⟨aa,ac,l,rfl,hlen,hA2⟩:=zD2 (hval 0 22 v0 rfl rfl) h0;obtain ⟨key,rfl,_⟩:=zFS (hval 1 9 v1 rfl rfl) h1;obtain ⟨x,rfl,_⟩:=zFS (hval 2 9 v2 rfl rfl) h2;obtain ⟨y,rfl,_⟩:=zFS (hval 3 9 v3 rfl rfl) h3;have hlen':l.length≤9223372036854775807:=hlen;refine (zMS aa ac l key x y W ⟨lib7 hL hsh,hA2⟩ hlen').mono fun e W' ⟨he,hx⟩=>?_
 subst he;exact ⟨_,rfl,zEs Tryz.laidOut (by kernel_rfl) (by kernel_rfl) Tryz.underlying4 rfl rfl rfl rfl hA1 hfz hnd hlt hx⟩
