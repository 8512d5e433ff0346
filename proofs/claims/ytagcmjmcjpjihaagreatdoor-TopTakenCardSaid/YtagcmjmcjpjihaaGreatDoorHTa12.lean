/- Texts TopTakenLift of this claim, laid together. -/
import Derived.Test.YtagcmjmcjpjihaaGreatDoorHTa7
import Derived.Test.YtagcmjmcjpjihaaGreatDoorHTa11
import Derived.Test.YtagcmjmcjpjihaaGreatDoorTie
import Derived.Test.YtagcmjmcjpjihaaGreatDoorCards
set_option linter.unusedVariables false
set_option linter.unusedSimpArgs false
set_option maxHeartbeats 8000000
set_option maxRecDepth 100000
namespace Go.Proofs.YtagcmjmcjpjihaaGreatDoor
open Go.ChangeShapes Go.WideShapes Go.ChangeAt Go.RowKit Go.Joins
open Go.ChangeMaps (open_string)
theorem zCd (os:Os) (args:Array Value):laidMetH Tryz.prog Rows.topTakenRow.laid ((zBq os).forCall (fun _ _=>0) ⟨#[],args,[]⟩).memory:=
 zDn os args
theorem zUW (os:Os) (started:os.Started) (H:Type) (enc:TypeId×Value→H) :
 ReturnsInHanded {} Tryz.checked os 6 .any (fun w args=>(Rows.topTakenSpec.pre enc Tryz.prog Tryz.f6 [] false w args∧laidMetH Tryz.prog Rows.topTakenRow.laid w)∧sizedMet enc Tryz.prog Tryz.f6 (OpenSpec.ofChange Rows.topTakenSpec) false w args)
  (Rows.topTakenSpec.post enc Tryz.prog Tryz.f6 false true false false):=by
 refine zCk (C:=Tryz.checked) (X:=fun w _=>laidMetH Tryz.prog Rows.topTakenRow.laid w) (fun _ _ _ hh h=>h.of_heap hh) Tryz.own started (by kernel_rfl) Tryz.func6
  (ChangeSpec.witness_shaped (enc:=enc) (C:=Tryz.checked) (os:=os) (X:=fun w _=>laidMetH Tryz.prog Rows.topTakenRow.laid w) false (zBq os) #[.int .i64 0,.slice none 0 0] 8 rfl (World.shaped_of_RefB (by kernel_rfl) (by kernel_rfl)) (by kernel_rfl) (by kernel_rfl) (by kernel_rfl) (zCd os _)) ?_
 intro W base args ds gs before hval0 hW hL hsh;have hval:∀(j:Nat) t v,Tryz.f6.params[j]?=some t→args[j]?=some v→Value.okWide Tryz.prog W .any base t v:=hval0;have hlt:∀x∈before,x.block<W.heap.size:=fun x hx=>by simpa using hW.lt x hx
 obtain ⟨p,q,hA0,hV,rfl,hfz,hnd⟩:=hW;have hA:DataW.TrodAll enc Tryz.prog W 0 (fun _=>true) true Tryz.f6.params.toList args.toList ds p:=hA0;have hA1:=hA;rw [Tryz.params6] at hA hval;obtain ⟨v0,v1,d0,d1,p0,p1,rfl,rfl,rfl,h0,h1⟩:=trodAll_two hA;obtain ⟨rfl,rfl⟩:=trodVars_none hV;rw [List.append_nil] at hfz hnd hlt;obtain ⟨many,rfl,_⟩:=zUs (hval 0 3 v0 rfl rfl) h0;obtain ⟨ta,tc,l,rfl,hlen,hA2⟩:=zVL (hval 1 78 v1 rfl rfl) h1;have hlen':l.length≤9223372036854775807:=hlen;refine (zUm many ta l.length tc l W ⟨lib7 hL hsh,hA2⟩ rfl hlen').mono fun e W' ⟨he,hx⟩=>?_
 subst he;exact ⟨_,rfl,zEs Tryz.laidOut (by kernel_rfl) (by kernel_rfl) Tryz.underlying4 rfl rfl rfl rfl hA1 hfz hnd hlt hx⟩
